/- The text of rows so far, in a builder, and the places of its bytes, in a row of their own. No condition. -/
import Derived.Test.YtooiiefipdjbjaaDoorTxB
namespace Go.Proofs.YtooiiefipdjbjaaDoor
set_option linter.unusedVariables false
set_option linter.unusedSimpArgs false
open Go.RowKit

def Bp.pl (x : Bp) : Int × Int := (x.line, x.col)
theorem builder_sees {T e : TypeId} {B b : Nat} {bs : List Value} {W W' : World} (h : Lib.IsBuilderF T e B b bs W) (hs : Sees W W') : Lib.IsBuilderF T e B b bs W' := by
  have one : ∀ p, Lib.BuilderAtF T e B b p bs W → Lib.BuilderAtF T e B b p bs W' := by
    rintro p ⟨h1, v, h2, h3, h4⟩
    refine ⟨h1, v, by rw [hs.block _ (Array.getElem?_eq_some_iff.1 h2).1]; exact h2, ⟨h3.1, ?_⟩, h4⟩
    rcases h3.2 with h5 | ⟨g, cap, cur, fz, k1, k2, k3, k4⟩
    · exact .inl h5
    · exact .inr ⟨g, cap, cur, fz, k1, k2, by rw [hs.block _ (Array.getElem?_eq_some_iff.1 k3).1]; exact k3, k4⟩
  exact h.imp (one _) (one _)
/-- A builder is kept by what is done to a row that is none of bytes. -/
theorem builder_row {T e : TypeId} {B b : Nat} {bs : List Value} {W W' : World} {g : Option Nat} (h : Lib.IsBuilderF T e B b bs W) (hk : Keeps (fun x => g = some x) W W') (hb : g ≠ some b) (hg : ∀ x, g = some x → ∃ c t fz, W.heap[x]? = some (.cells c t fz) ∧ t ≠ e) : Lib.IsBuilderF T e B b bs W' := by
  have one : ∀ p, Lib.BuilderAtF T e B b p bs W → Lib.BuilderAtF T e B b p bs W' := by
    rintro p ⟨h1, v, h2, h3, h4⟩
    refine ⟨h1, v, by rw [hk.block _ (Array.getElem?_eq_some_iff.1 h2).1 hb]; exact h2, ⟨h3.1, ?_⟩, h4⟩
    rcases h3.2 with h5 | ⟨x, cap, cur, fz, k1, k2, k3, k4⟩
    · exact .inl h5
    · refine .inr ⟨x, cap, cur, fz, k1, k2, ?_, k4⟩
      rw [hk.block _ (Array.getElem?_eq_some_iff.1 k3).1 (fun e => ?_)]
      · exact k3
      · obtain ⟨c, t, fz', h6, h7⟩ := hg x e
        rw [k3] at h6
        injection h6 with h6
        injection h6 with _ h8 _
        exact h7 h8.symm
  exact h.imp (one _) (one _)
theorem own_type {F : Nat → Prop} {w : World} {v : Value} {xs : List (Int × Int)} (h : plEl.Own F w v xs) (x : Nat) (hx : v.ownBlock = some x) : F x ∧ ∃ c t fz, w.heap[x]? = some (.cells c t fz) ∧ t ≠ 5 := by
  obtain ⟨vals, ⟨h1, h2⟩, h3, h4⟩ := h
  refine ⟨h3 x hx, ?_⟩
  rcases h2 with ⟨rfl, _⟩ | ⟨g, cap, cur, rfl, h5, hg, h6⟩
  · cases hx
  · cases hx
    exact ⟨cur, _, _, hg, plNe⟩
/-- A text and places, so far; the builder's block is B. -/
structure GaSt (w : World) (bs : List UInt8) (ps : List (Int × Int)) (u : Value) (W : World) : Prop where
  b : Lib.IsBuilderF 113 5 w.heap.size w.heap.size (Lib.byteCells bs) W
  p : plEl.Own (fun x => w.heap.size < x) W u ps
  s : Sees w W
namespace GaSt
variable {w W W' : World} {bs : List UInt8} {ps : List (Int × Int)} {u : Value}
theorem start (w : World) : GaSt w [] [] (.slice none 0 0) (w.alloc (.cells #[.pointer none, .slice none 0 0] 113)) :=
  ⟨Lib.IsBuilderF.of (Lib.fresh_isBuilder 113 5 w), El.Own.nil _ _, (Sees.refl w).alloc _⟩
theorem sees (h : GaSt w bs ps u W) (hs : Sees W W') : GaSt w bs ps u W' := ⟨builder_sees h.b hs, h.p.sees hs, h.s.trans hs⟩
theorem write (h : GaSt w bs ps u W) (t : List UInt8) (hl : bs.length + t.length ≤ 1000000000) :
    Calls Tryd.prog 59 #[.pointer (some ⟨w.heap.size, 0, none⟩), .string ⟨t.toArray⟩] W fun e W' => ∃ x y, e = .returned (.tuple #[x, y]) ∧ GaSt w (bs ++ t) ps u W' := by
  refine (write_bytes w.heap.size w.heap.size bs t W h.b hl h.s.size).mono ?_
  rintro e W' ⟨x, y, rfl, h1, h2, h3⟩
  exact ⟨x, y, rfl, h1, pl_others h.p h3 (fun e => Nat.lt_irrefl _ e), h.s.below.trans h2⟩
theorem add (h : GaSt w bs ps u W) {u' : Value} {p : Int × Int} {W1 W2 : World} (hs : Sees W W1) (ho : plEl.Own (fun b => (fun x => w.heap.size < x ∧ x < W1.heap.size) b ∨ (fun _ => False) b ∨ W1.heap.size ≤ b) W2 u' (ps ++ [p])) (hk : Keeps (fun b => u.ownBlock = some b) W1 W2) : GaSt w bs (ps ++ [p]) u' W2 := by
  have h1 := h.sees hs
  refine ⟨builder_row h1.b hk (fun e => Nat.lt_irrefl _ (own_type h1.p _ e).1) (fun x hx => (own_type h1.p x hx).2), ho.mono (fun b _ hb => ?_), El.keep_new h1.s hk (fun g hg => Nat.le_of_lt (own_type h1.p g hg).1)⟩
  rcases hb with hb | hb | hb
  · exact hb.1
  · exact hb.elim
  · have := h1.s.size
    have := (show w.heap.size < W1.heap.size from by
      rcases h1.b with ⟨_, v, h2, _⟩ | ⟨_, v, h2, _⟩ <;> exact (Array.getElem?_eq_some_iff.1 h2).1)
    omega
theorem string (h : GaSt w bs ps u W) : Calls Tryd.prog 62 #[.pointer (some ⟨w.heap.size, 0, none⟩)] W fun e W' => e = .returned (.string ⟨bs.toArray⟩) ∧ plEl.Own (fun x => w.heap.size < x) W' u ps ∧ Sees w W' := by
  refine (bstr w.heap.size w.heap.size bs W h.b h.s.size).mono ?_
  rintro e W' ⟨rfl, h2, h3⟩
  exact ⟨rfl, pl_others h.p h3 (fun e => Nat.lt_irrefl _ e), h.s.below.trans h2⟩
end GaSt
theorem cellB_b (n : Int) (k : Nat) (c : Cell) : (cellB n k c).map Bp.b = c.txt := by
  unfold cellB
  rw [List.map_map]
  show c.txt.map (fun b => b) = _
  rw [List.map_id']
theorem cellB_pl (n : Int) (k : Nat) (c : Cell) : (cellB n k c).map Bp.pl = List.replicate c.txt.length (n, (k : Int)) := by
  unfold cellB
  rw [List.map_map]
  show c.txt.map (fun _ => (n, (k : Int))) = _
  rw [List.map_const']
theorem pl_news {W : World} {g : Nat} {p : Int × Int} (hg : W.heap[g]? = some (.cells #[.int .i64 p.1, .int .i64 p.2] 25 (0, 0))) : plEl.ownIn (fun _ => False) W [.int .i64 p.1, .int .i64 p.2] [p] ∧ ∀ j u, [Value.int .i64 p.1, .int .i64 p.2][j]? = some u → W.cell? ((⟨g, 0, none⟩ : Addr).add j) = some u :=
  ⟨El.ownIn_one (E := plEl) rfl, fun j u hu => El.row_cells hg j u hu⟩
end Go.Proofs.YtooiiefipdjbjaaDoor
