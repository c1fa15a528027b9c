/- Tab stops in memory (20): the struct and its map. No condition. -/
import Derived.Test.YtdblmoaimghplaaBase
import Derived.Test.YtdblmoaimghplaaTbP
import Derived.Maps.Own
import Derived.Maps.Range
import Derived.BigCall
import Derived.IntWalk
namespace Go.Proofs.Ytdblmoaimghplaa
set_option linter.unusedVariables false
set_option linter.unusedSimpArgs false
open Go.RowKit Go.Maps

/-- All blocks that were there but those of F are as they were. -/
structure Keeps (F : Nat → Prop) (w w' : World) : Prop where
  os : w'.os = w.os
  tape : w'.tape = w.tape
  output : w'.output = w.output
  size : w.heap.size ≤ w'.heap.size
  block : ∀ b, b < w.heap.size → ¬ F b → w'.heap[b]? = w.heap[b]?
namespace Keeps
variable {F G : Nat → Prop} {w W X : World}
theorem refl (F : Nat → Prop) (w : World) : Keeps F w w := ⟨rfl, rfl, rfl, Nat.le_refl _, fun _ _ _ => rfl⟩
theorem of_sees (h : Sees w W) : Keeps F w W := ⟨h.os, h.tape, h.output, h.size, fun b hb _ => h.block b hb⟩
theorem trans (h : Keeps F w W) (k : Keeps F W X) : Keeps F w X :=
  ⟨k.os.trans h.os, k.tape.trans h.tape, k.output.trans h.output, Nat.le_trans h.size k.size, fun b hb hF => (k.block b (Nat.lt_of_lt_of_le hb h.size) hF).trans (h.block b hb hF)⟩
theorem trans' (h : Keeps F w W) (k : Keeps G W X) (hG : ∀ b, b < w.heap.size → G b → F b) : Keeps F w X :=
  ⟨k.os.trans h.os, k.tape.trans h.tape, k.output.trans h.output, Nat.le_trans h.size k.size, fun b hb hF => (k.block b (Nat.lt_of_lt_of_le hb h.size) (fun hg => hF (hG b hb hg))).trans (h.block b hb hF)⟩
theorem mono (h : Keeps F w W) (hFG : ∀ b, b < w.heap.size → F b → G b) : Keeps G w W := ⟨h.os, h.tape, h.output, h.size, fun b hb hG => h.block b hb (fun hF => hG (hFG b hb hF))⟩
theorem alloc (h : Keeps F w W) (o : Obj) : Keeps F w (W.alloc o) := h.trans (of_sees ((Sees.refl W).alloc o))
theorem setCell (h : Keeps F w W) {p : Addr} (hp : p.block < w.heap.size → F p.block) (u : Value) : Keeps F w (W.setCell p u) :=
  ⟨h.os, h.tape, h.output, by simpa [World.setCell] using h.size, fun b hb hF => by rw [heap_setCell_other _ _ _ _ (fun e => hF (by subst e; exact hp hb))]; exact h.block b hb hF⟩
theorem sees_end (h : Keeps F w W) (hF : ∀ b, b < w.heap.size → ¬ F b) : Sees w W := ⟨h.os, h.tape, h.output, h.size, fun b hb => h.block b hb (hF b hb)⟩
theorem row (h : Keeps F w W) {b : Nat} {o : Obj} (hF : ¬ F b) (hr : w.heap[b]? = some o) : W.heap[b]? = some o := by
  rw [h.block b (Array.getElem?_eq_some_iff.1 hr).1 hF, hr]
end Keeps

/-- A number in a slot. -/
def vInt : Value → Int
  | .int _ k => k
  | _ => 0
/-- How an element reads: as it is. -/
def RV (v : Value) : Option (DataW Value × List MemPlace) := some (.held v, [])
/-- A map of columns. -/
abbrev BMap (W : World) (b : Nat) (D : DataW Value) : Prop := W.ownsMap Try.prog 3 RV b 1000 D
theorem intKeyed : Keyed Try.prog 3 := Go.Maps.int_keyed Try.underlying3
theorem BMap.block {W W' : World} {b : Nat} {D : DataW Value} (h : BMap W b D) (hb : W'.heap[b]? = W.heap[b]?) : BMap W' b D := by
  obtain ⟨es, clock, h1, h2⟩ := h
  exact ⟨es, clock, hb.trans h1, h2⟩
theorem BMap.keeps {W W' : World} {F : Nat → Prop} {b : Nat} {D : DataW Value} (h : BMap W b D) (hk : Keeps F W W') (hF : ¬ F b) : BMap W' b D := h.block (hk.block b h.lt hF)
theorem keys_perm {W : World} {b n : Nat} {D : DataW Value} {g : Int → Bool} (h : W.ownsMap Try.prog 3 RV b n D) (hm : MapIs D g) {ss : List Int} (hnd : ss.Nodup) (hs : ∀ x, x ∈ ss ↔ g x = true) : ss.Perm (intKeys D) := by
  obtain ⟨es, hD, hpw, _⟩ := h.entries intKeyed
  obtain ⟨es', hD', hko⟩ := h.keysOf
  obtain rfl : es = es' := by rw [hD] at hD'; simpa using hD'
  subst hD
  refine perm_intKeys hpw (fun p hp => ?_) hnd (fun x => by rw [hs, hm.2])
  obtain ⟨v, hv⟩ := hko p hp
  obtain ⟨x, _, hx, _⟩ := Maps.keyOf_i64 Try.underlying3 hv
  exact ⟨x, hx⟩
/-- A map of columns has at most a thousand entries. -/
theorem canon {W : World} {b n : Nat} {D : DataW Value} {g : Int → Bool} (h : W.ownsMap Try.prog 3 RV b n D) (hm : MapIs D g) (hr : ∀ k, g k = true → 0 ≤ k ∧ k < 1000) : BMap W b D := by
  have hp := keys_perm h hm (ss := ((List.range 1000).filter fun (i : Nat) => g (i : Int)).map fun (i : Nat) => (i : Int))
    (List.pairwise_map.2 (((List.pairwise_lt_range (n := 1000)).filter _).imp fun h => by omega)) (fun x => by
      rw [List.mem_map]
      constructor
      · rintro ⟨i, hi, rfl⟩
        exact (List.mem_filter.1 hi).2
      · intro hx
        have := hr x hx
        have e : ((x.toNat : Nat) : Int) = x := by omega
        exact ⟨x.toNat, List.mem_filter.2 ⟨List.mem_range.2 (by omega), by rw [e]; exact hx⟩, e⟩)
  have hl := hp.length_eq
  have hle : (((List.range 1000).filter fun (i : Nat) => g (i : Int)).map fun (i : Nat) => (i : Int)).length ≤ 1000 := by
    rw [List.length_map]
    refine Nat.le_trans (List.length_filter_le _ _) (by simp)
  obtain ⟨es, clock, hb, F, hs, hD⟩ := h
  refine ⟨es, clock, hb, F, ?_, hD⟩
  have e : (intKeys D).length = es.size := by
    rw [hD]
    simp [intKeys, length_sorted]
  omega
theorem zero_bool (w : World) : (zeroValue 4).run Try.prog w = .ok (.bool false) w := by kernel_rfl
theorem key_of {k : Int} (h : -9223372036854775808 ≤ k ∧ k ≤ 9223372036854775807) : keyOf Try.prog 3 (.int .i64 k) = some (.int .i64 k) :=
  Go.Maps.keyOf_int_mk Try.underlying3 (by simp [Lit.wf, IntKind.min, IntKind.max, IntKind.signed, IntKind.bits]; omega)
theorem BMap.look {W : World} {b : Nat} {D : DataW Value} {g : Int → Bool} (h : BMap W b D) (hm : MapIs D g) {k : Int} (hk : -9223372036854775808 ≤ k ∧ k ≤ 9223372036854775807) :
    (Instr.lookup 51 (.map (some b)) (.int .i64 k) false).run Try.prog W = .ok (.bool (g k)) W := by
  obtain ⟨v', ps, h1, h2⟩ := h.lookup intKeyed Try.underlying51 (zero_bool W) (zd := .held (.bool false)) (zp := []) rfl (key_of hk)
  rw [hm.1] at h2
  unfold RV at h2
  simp only [Option.some.injEq, Prod.mk.injEq, DataW.held.injEq] at h2
  rw [h1, h2.1]
theorem keeps_turned {W W' : World} {b : Nat} (h : W.mapTurned W' b) : Keeps (fun c => c = b) W W' := by
  have g := h.grown
  exact ⟨g.os, g.tape, g.output, g.size, fun c hc hne => g.block c hc (fun e => hne (by cases e; rfl))⟩
theorem BMap.put {W : World} {b : Nat} {D : DataW Value} {g g' : Int → Bool} (h : BMap W b D) (hm : MapIs D g) {k : Int} (hk : 0 ≤ k ∧ k < 1000) (hr : ∀ k, g k = true → 0 ≤ k ∧ k < 1000) (he : ∀ j, g' j = if j = k then true else g j) :
    ∃ W', (Instr.mapUpdate 51 (.map (some b)) (.int .i64 k) (.bool true)).run Try.prog W = .ok () W' ∧ (∃ D', BMap W' b D' ∧ MapIs D' g') ∧ Keeps (fun c => c = b) W W' := by
  obtain ⟨W', h1, h2, h3⟩ := h.store intKeyed Try.underlying51 (by unfold maxLen; omega) (d := .held (.bool true)) (ps := []) (key_of (show -9223372036854775808 ≤ k ∧ k ≤ 9223372036854775807 by omega)) rfl
  have hm2 := (hm.put h.isMap k).congr (fun j => (he j).symm)
  refine ⟨W', h1, ⟨_, canon h2 hm2 (fun j hj => ?_), hm2⟩, keeps_turned h3⟩
  rw [he] at hj
  split at hj
  · omega
  · exact hr j hj
theorem BMap.drop {W : World} {b : Nat} {D : DataW Value} {g g' : Int → Bool} (h : BMap W b D) (hm : MapIs D g) {k : Int} (hk : 0 ≤ k ∧ k < 1000) (he : ∀ j, g' j = if j = k then false else g j) (ty : TypeId) :
    ∃ W', (Builtin.delete_ #[51, 3] ty #[.map (some b), .int .i64 k]).run Try.prog W = .ok (.tuple #[]) W' ∧ (∃ D', BMap W' b D' ∧ MapIs D' g') ∧ Keeps (fun c => c = b) W W' := by
  obtain ⟨W', h1, h2, h3⟩ := World.ownsMap.drop h intKeyed Try.underlying51 (key_of (show -9223372036854775808 ≤ k ∧ k ≤ 9223372036854775807 by omega)) ty
  exact ⟨W', h1, ⟨_, h2, (hm.del k).congr (fun j => (he j).symm)⟩, keeps_turned h3⟩
theorem BMap.none {W : World} {b : Nat} {D : DataW Value} (h : BMap W b D) (ty : TypeId) :
    ∃ W', (Builtin.clear_ #[51] ty #[.map (some b)]).run Try.prog W = .ok (.tuple #[]) W' ∧ (∃ D', BMap W' b D' ∧ MapIs D' (fun _ => false)) ∧ Keeps (fun c => c = b) W W' := by
  obtain ⟨es, clock, hb, F, hs, hD⟩ := h
  have hf : Go.WideElems.Fit Try.prog 3 RV (#[] : Array MapEntry) clock := ⟨by unfold maxLen; simp, Go.MapKept.stamped_empty _, by simp⟩
  refine ⟨_, by simp [Builtin.clear_, run_underlying Try.underlying51, Go.MapKept.run_getObj_map hb, Go.MapKept.run_setObj_map _ hb, Result.andThen]; rfl, ⟨.map [], ⟨#[], clock, Go.ChangeMaps.heap_setBlock_same hb _, hf, by simp, rfl⟩, MapIs.empty⟩, keeps_turned ⟨es, clock, #[], clock, hb, rfl⟩⟩

/-- A struct of so many columns, and its map. -/
structure GpAt (W : World) (p mb : Nat) (c : Int) (g : Int → Bool) : Prop where
  row : W.heap[p]? = some (.cells #[.int .i64 c, .map (some mb)] 53 (0, 0))
  map : ∃ D, BMap W mb D ∧ MapIs D g
  ne : p ≠ mb
  rng : ∀ k, g k = true → 0 ≤ k ∧ k < 1000
namespace GpAt
variable {W W' : World} {p mb : Nat} {c : Int} {g g' : Int → Bool} {F : Nat → Prop}
theorem cs (h : GpAt W p mb c g) : W.cell? ⟨p, 0, none⟩ = some (.int .i64 c) ∧ W.cell? ⟨p, 1, none⟩ = some (.map (some mb)) := by
  constructor
  · rw [Go.cell_of_row W p 0 _ _ _ h.row]; rfl
  · rw [Go.cell_of_row W p 1 _ _ _ h.row]; rfl
theorem fr (h : GpAt W p mb c g) : W.frozen? ⟨p, 0, none⟩ = false ∧ W.frozen? ⟨p, 1, none⟩ = false := ⟨frozen_of_row W p 0 _ _ h.row, frozen_of_row W p 1 _ _ h.row⟩
theorem lt (h : GpAt W p mb c g) : p < W.heap.size := (Array.getElem?_eq_some_iff.1 h.row).1
theorem mlt (h : GpAt W p mb c g) : mb < W.heap.size := by obtain ⟨D, h1, _⟩ := h.map; exact h1.lt
theorem keeps (h : GpAt W p mb c g) (hk : Keeps F W W') (h1 : ¬ F p) (h2 : ¬ F mb) : GpAt W' p mb c g :=
  ⟨hk.row h1 h.row, by obtain ⟨D, e1, e2⟩ := h.map; exact ⟨D, e1.keeps hk h2, e2⟩, h.ne, h.rng⟩
theorem sees (h : GpAt W p mb c g) (hs : Sees W W') : GpAt W' p mb c g := h.keeps (Keeps.of_sees (F := fun _ => False) hs) (fun h => h) (fun h => h)
theorem congr (h : GpAt W p mb c g) (e : ∀ k, g k = g' k) : GpAt W p mb c g' := ⟨h.row, by obtain ⟨D, e1, e2⟩ := h.map; exact ⟨D, e1, e2.congr e⟩, h.ne, fun k hk => h.rng k (by rw [e]; exact hk)⟩
theorem look (h : GpAt W p mb c g) {k : Int} (hk : -9223372036854775808 ≤ k ∧ k ≤ 9223372036854775807) : (Instr.lookup 51 (.map (some mb)) (.int .i64 k) false).run Try.prog W = .ok (.bool (g k)) W := by
  obtain ⟨D, e1, e2⟩ := h.map
  exact e1.look e2 hk
theorem put (h : GpAt W p mb c g) {k : Int} (hk : 0 ≤ k ∧ k < 1000) (he : ∀ j, g' j = if j = k then true else g j) :
    ∃ W', (Instr.mapUpdate 51 (.map (some mb)) (.int .i64 k) (.bool true)).run Try.prog W = .ok () W' ∧ GpAt W' p mb c g' ∧ Keeps (fun c => c = mb) W W' := by
  obtain ⟨D, e1, e2⟩ := h.map
  obtain ⟨W', a, b, d⟩ := e1.put e2 hk h.rng he
  refine ⟨W', a, ⟨d.row h.ne h.row, b, h.ne, fun j hj => ?_⟩, d⟩
  rw [he] at hj
  split at hj
  · omega
  · exact h.rng j hj
theorem drop (h : GpAt W p mb c g) {k : Int} (hk : 0 ≤ k ∧ k < 1000) (he : ∀ j, g' j = if j = k then false else g j) (ty : TypeId) :
    ∃ W', (Builtin.delete_ #[51, 3] ty #[.map (some mb), .int .i64 k]).run Try.prog W = .ok (.tuple #[]) W' ∧ GpAt W' p mb c g' ∧ Keeps (fun c => c = mb) W W' := by
  obtain ⟨D, e1, e2⟩ := h.map
  obtain ⟨W', a, b, d⟩ := e1.drop e2 hk he ty
  refine ⟨W', a, ⟨d.row h.ne h.row, b, h.ne, fun j hj => ?_⟩, d⟩
  rw [he] at hj
  split at hj
  · cases hj
  · exact h.rng j hj
theorem none (h : GpAt W p mb c g) (ty : TypeId) :
    ∃ W', (Builtin.clear_ #[51] ty #[.map (some mb)]).run Try.prog W = .ok (.tuple #[]) W' ∧ GpAt W' p mb c (fun _ => false) ∧ Keeps (fun c => c = mb) W W' := by
  obtain ⟨D, e1, e2⟩ := h.map
  obtain ⟨W', a, b, d⟩ := e1.none ty
  exact ⟨W', a, ⟨d.row h.ne h.row, b, h.ne, fun j hj => by cases hj⟩, d⟩
end GpAt
/-- Stops with a stop where L has true. -/
def SpAt (W : World) (p mb : Nat) (L : List Bool) : Prop := GpAt W p mb (L.length : Int) (getB L) ∧ 1 ≤ L.length ∧ L.length ≤ 1000
theorem SpAt.sees {W W' : World} {p mb : Nat} {L : List Bool} (h : SpAt W p mb L) (hs : Sees W W') : SpAt W' p mb L := ⟨h.1.sees hs, h.2⟩
theorem SpAt.keeps {W W' : World} {F : Nat → Prop} {p mb : Nat} {L : List Bool} (h : SpAt W p mb L) (hk : Keeps F W W') (h1 : ¬ F p) (h2 : ¬ F mb) : SpAt W' p mb L := ⟨h.1.keeps hk h1 h2, h.2⟩
end Go.Proofs.Ytdblmoaimghplaa
