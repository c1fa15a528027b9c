/- Slices of structures that are made, as own data. No condition. -/
import Derived.Test.YtpicffaghoggdaaDoorElO
namespace Go.Proofs.YtpicffaghoggdaaDoor
set_option linter.unusedVariables false
set_option linter.unusedSimpArgs false
open Go.RowKit

theorem made_flat (z : List Value) (hz : 0 < z.length) (n : Nat) : (madeCells z.toArray (n * z.length)).toList = (List.replicate n z).flatten := by
  have hrep : ∀ (n i : Nat), i < n * z.length → (List.replicate n z).flatten[i]? = z[i % z.length]? := by
    intro n
    induction n with
    | zero => intro i hi; omega
    | succ n ih =>
      intro i hi
      rw [List.replicate_succ, List.flatten_cons]
      by_cases h1 : i < z.length
      · rw [List.getElem?_append_left h1, Nat.mod_eq_of_lt h1]
      · rw [List.getElem?_append_right (by omega), ih (i - z.length) (by rw [Nat.succ_mul] at hi; omega), ← Nat.mod_eq_sub_mod (by omega)]
  apply List.ext_getElem?
  intro i
  by_cases hi : i < n * z.length
  · rw [hrep n i hi]
    have hm := Nat.mod_lt i hz
    simp [madeCells, hi, hm, List.getElem?_eq_getElem hm]
  · rw [List.getElem?_eq_none (by simp [madeCells]; omega), List.getElem?_eq_none (by simp; omega)]
namespace El
variable {α : Type} {E : El α} {P : Program} {st : TypeId}
theorem ownIn_rep {x : α} {z : List Value} (hz : z.length = E.n) (h : ∀ F w, E.own F w z x) : ∀ (n : Nat) (F : Nat → Prop) (w : World), E.ownIn F w (List.replicate n z).flatten (List.replicate n x)
  | 0, F, w => rfl
  | n + 1, F, w => by
    rw [List.replicate_succ, List.flatten_cons, List.replicate_succ]
    exact ⟨fun _ => False, F, fun _ h => h.elim, fun _ h => h, fun _ h => h.elim, by rw [List.take_append_of_le_length (by omega), List.take_of_length_le (by omega)]; exact h _ _,
      by rw [List.drop_append_of_le_length (by omega), List.drop_eq_nil_of_le (by omega), List.nil_append]; exact ownIn_rep hz h n F w⟩
theorem run_make_own (z : List Value) (x : α) (hu : P.underlying st = some (.slice E.ty)) (hinfo : (P.info? E.ty).map (fun i => (i.zero, i.size)) = some (some (.agg z.toArray), E.n)) (hb : ∀ i, P.info? E.ty = some i → i.bytes ≤ 1024) (hz : z.length = E.n) (hzc : (Value.agg z.toArray).cells = z.toArray) (h : ∀ F w, E.own F w z x) (n : Nat) (hn : n ≤ 1000000) (W : World) :
    (Instr.makeSlice st (.int .i64 (n : Int)) (.int .i64 (n : Int))).run P W = .ok (.slice (some ⟨W.heap.size, 0, none⟩) n n) (W.alloc (.cells (List.replicate n z).flatten.toArray E.ty)) ∧
      E.Own (fun b => b = W.heap.size) (W.alloc (.cells (List.replicate n z).flatten.toArray E.ty)) (.slice (some ⟨W.heap.size, 0, none⟩) n n) (List.replicate n x) := by
  cases hi : P.info? E.ty with
  | none => rw [hi] at hinfo; cases hinfo
  | some i =>
    rw [hi] at hinfo
    simp only [Option.map_some, Option.some.injEq, Prod.mk.injEq] at hinfo
    have hn0 := E.n0
    have hby := hb i hi
    have hbb : (i.bytes : Int) * (n : Int) ≤ 281474976710656 := by
      have h1 : i.bytes * n ≤ 1024 * 1000000 := Nat.mul_le_mul hby hn
      have h2 : ((i.bytes * n : Nat) : Int) ≤ 281474976710656 := by omega
      rwa [Int.natCast_mul] at h2
    have hr := run_make (P := P) W st E.ty i (.agg z.toArray) hu hi hinfo.1 .i64 .i64 n n (by omega) (Int.le_refl _) hbb (by omega)
    have hc : madeCells z.toArray (n * E.n) = (List.replicate n z).flatten.toArray := Array.toList_inj.1 (by rw [← hz, made_flat z (by omega) n])
    rw [hzc, Int.toNat_natCast, hinfo.2, hc] at hr
    have hl : (List.replicate n z).flatten.length = n * E.n := by simp [hz]
    refine ⟨hr, (List.replicate n z).flatten, ⟨by rw [List.length_replicate]; exact hl, .inr ⟨W.heap.size, n, _, by rw [List.length_replicate], Nat.zero_le _, heap_alloc_new W _, by rw [List.length_replicate]; exact Nat.le_refl _, by unfold maxLen; omega, by rw [List.size_toArray]; exact hl, ?_⟩⟩, fun g hg => by cases hg; rfl, ownIn_rep hz h n _ _⟩
    rw [List.length_replicate, ← hl]; exact List.take_of_length_le (Nat.le_refl _)
end El
end Go.Proofs.YtpicffaghoggdaaDoor
