/- The links of rows: in plain Lean; rows of them, of places, of addresses' places (43). No condition. -/
import Derived.Test.YtfdolhppbimbmaaDoorLkD
import Derived.Test.YtfdolhppbimbmaaDoorSrI
import Derived.Test.YtfdolhppbimbmaaDoorSrW
import Derived.Test.YtfdolhppbimbmaaDoorChA
namespace Go.Proofs.YtfdolhppbimbmaaDoor
set_option linter.unusedVariables false
set_option linter.unusedSimpArgs false
open Go.RowKit Go.Shelf

/-- A link: the places of its first and its last cell, and its address. -/
structure Lk where
  (l0 c0 l1 c1 : Int)
  a : ByteArray
def lkOf (seg : List Bp) (m : Nat × Nat) : Lk := ⟨(seg.getD m.1 default).line, (seg.getD m.1 default).col, (seg.getD (m.2 - 1) default).line, (seg.getD (m.2 - 1) default).col, strL (cutL (seg.map Bp.b) m)⟩
def linkS (seg : List Bp) : List Lk := (spotsL (seg.map Bp.b)).map (lkOf seg)
/-- All links of rows. -/
def allK (ls : List Ln) (first : Int) : List Lk := (segs first [] ls).flatMap linkS
theorem linkS_len (seg : List Bp) : (linkS seg).length = (spotsL (seg.map Bp.b)).length := by unfold linkS; rw [List.length_map]

def lkEl : El Lk := wordsEl 67 5 (fun m => [.int .i64 m.l0, .int .i64 m.c0, .int .i64 m.l1, .int .i64 m.c1, .string m.a]) (by decide) (fun _ => rfl) (by intro x v hv; simp at hv; rcases hv with rfl | rfl | rfl | rfl | rfl <;> rfl)
theorem typedLk : El.Typed Tryd.prog lkEl 68 := El.typed_of (z := .agg #[.int .i64 0, .int .i64 0, .int .i64 0, .int .i64 0, .string ⟨#[]⟩]) (bytes := 48) Tryd.underlying68 (by kernel_rfl) rfl (by decide)
theorem lk_news {W : World} {g : Nat} {m : Lk} (hg : W.heap[g]? = some (.cells #[.int .i64 m.l0, .int .i64 m.c0, .int .i64 m.l1, .int .i64 m.c1, .string m.a] 67 (0, 0))) : lkEl.ownIn (fun _ => False) W [.int .i64 m.l0, .int .i64 m.c0, .int .i64 m.l1, .int .i64 m.c1, .string m.a] [m] ∧ ∀ j u, [Value.int .i64 m.l0, .int .i64 m.c0, .int .i64 m.l1, .int .i64 m.c1, .string m.a][j]? = some u → W.cell? ((⟨g, 0, none⟩ : Addr).add j) = some u :=
  ⟨El.ownIn_one (E := lkEl) rfl, fun j u hu => El.row_cells hg j u hu⟩
/-- Links so far, and the places of a logical line's bytes and its addresses. -/
structure LkSt (w : World) (ks : List Lk) (ps : List (Int × Int)) (ms : List (Nat × Nat)) (uo up um : Value) (W : World) : Prop where
  o : lkEl.Own (fun b => uo.ownBlock = some b) W uo ks
  p : plEl.Own (fun b => up.ownBlock = some b) W up ps
  m : spEl.Own (fun b => um.ownBlock = some b) W um ms
  a : ∀ b, uo.ownBlock = some b → w.heap.size ≤ b
  s : Sees w W
namespace LkSt
variable {w W W1 W2 : World} {ks : List Lk} {ps : List (Int × Int)} {ms : List (Nat × Nat)} {uo up um v : Value}
theorem start (h : Sees w W) : LkSt w [] [] [] (.slice none 0 0) (.slice none 0 0) (.slice none 0 0) W := ⟨El.Own.nil _ _, El.Own.nil _ _, El.Own.nil _ _, fun b h => (by cases h), h⟩
theorem sees (h : LkSt w ks ps ms uo up um W) (hs : Sees W W1) : LkSt w ks ps ms uo up um W1 := ⟨h.o.sees hs, h.p.sees hs, h.m.sees hs, h.a, h.s.trans hs⟩
theorem clear (h : LkSt w ks ps ms uo up um W) : LkSt w ks [] [] uo (.slice none 0 0) (.slice none 0 0) W := ⟨h.o, El.Own.nil _ _, El.Own.nil _ _, h.a, h.s⟩
theorem setP {F : Nat → Prop} {qs : List (Int × Int)} (h : LkSt w ks ps ms uo up um W) (hp : plEl.Own F W v qs) : LkSt w ks qs ms uo v um W := ⟨h.o, words_self hp, h.m, h.a, h.s⟩
theorem setM {F : Nat → Prop} {ns : List (Nat × Nat)} (h : LkSt w ks ps ms uo up um W) (hp : spEl.Own F W v ns) : LkSt w ks ps ns uo up v W := ⟨h.o, h.p, words_self hp, h.a, h.s⟩
theorem ne1 : lkEl.ty ≠ plEl.ty := by decide
theorem ne2 : lkEl.ty ≠ spEl.ty := by decide
theorem add (h : LkSt w ks ps ms uo up um W) (hs : Sees W W1) {x : Lk} (ho : lkEl.Own (fun b => uo.ownBlock = some b ∨ False ∨ W1.heap.size ≤ b) W2 v (ks ++ [x])) (hk : Keeps (fun b => uo.ownBlock = some b) W1 W2) : LkSt w (ks ++ [x]) ps ms v up um W2 := by
  have h1 := h.sees hs
  refine ⟨words_self ho, h1.p.keeps hk (fun b hb hb' => own_apart h1.o h1.p ne1 b hb' hb), h1.m.keeps hk (fun b hb hb' => own_apart h1.o h1.m ne2 b hb' hb), fun b hb => ?_, El.keep_new h1.s hk h.a⟩
  rcases (ho.base hb).1 with e | e | e
  · exact h.a b e
  · exact e.elim
  · exact Nat.le_trans h1.s.size e
theorem olt (h : LkSt w ks ps ms uo up um W) {b : Nat} (hb : uo.ownBlock = some b) : b < W.heap.size := (h.o.base hb).2
end LkSt
theorem pl_cell {F : Nat → Prop} {w : World} {a : Option Addr} {n c : Nat} {xs : List (Int × Int)} (h : plEl.Rd F w (.slice a n c) xs) {k : Nat} (hk : k < n) : ∃ b o x, a = some ⟨b, o, none⟩ ∧ xs[k]? = some x ∧ w.cell? ⟨b, o + k * 2, none⟩ = some (.int .i64 x.1) ∧ w.cell? ⟨b, o + k * 2 + 1, none⟩ = some (.int .i64 x.2) := by
  obtain ⟨b, o, x, vs, rfl, _, hx, hvs, hc⟩ := h.at_ hk
  have hvs : vs = [.int .i64 x.1, .int .i64 x.2] := hvs
  subst hvs
  exact ⟨b, o, x, rfl, hx, hc 0 _ rfl, hc 1 _ rfl⟩
theorem lk_cell {F : Nat → Prop} {w : World} {a : Option Addr} {n c : Nat} {xs : List Lk} (h : lkEl.Rd F w (.slice a n c) xs) {k : Nat} (hk : k < n) : ∃ b o x, a = some ⟨b, o, none⟩ ∧ xs[k]? = some x ∧ w.cell? ⟨b, o + k * 5, none⟩ = some (.int .i64 x.l0) ∧ w.cell? ⟨b, o + k * 5 + 1, none⟩ = some (.int .i64 x.c0) ∧ w.cell? ⟨b, o + k * 5 + 2, none⟩ = some (.int .i64 x.l1) ∧ w.cell? ⟨b, o + k * 5 + 3, none⟩ = some (.int .i64 x.c1) ∧ w.cell? ⟨b, o + k * 5 + 4, none⟩ = some (.string x.a) := by
  obtain ⟨b, o, x, vs, rfl, _, hx, hvs, hc⟩ := h.at_ hk
  have hvs : vs = [.int .i64 x.l0, .int .i64 x.c0, .int .i64 x.l1, .int .i64 x.c1, .string x.a] := hvs
  subst hvs
  exact ⟨b, o, x, rfl, hx, hc 0 _ rfl, hc 1 _ rfl, hc 2 _ rfl, hc 3 _ rfl, hc 4 _ rfl⟩
/-- The pattern that All asks for tests the rows alone. -/
theorem ck_of {ls : List Ln} {first : Int} : ckR ls first ⟨#[58, 47, 47]⟩ = ofE ls first := by
  unfold ckR ofE
  rw [show patOk ⟨#[58, 47, 47]⟩ = true from by kernel_rfl, Bool.and_true]
theorem ofE_ways (ls : List Ln) (first : Int) : ofE ls first = 0 ∨ ofE ls first = 2 := by
  unfold ofE; split <;> simp
end Go.Proofs.YtfdolhppbimbmaaDoor
