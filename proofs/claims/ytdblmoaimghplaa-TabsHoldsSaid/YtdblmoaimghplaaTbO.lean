/- Arguments of the statements of 20 that came in: bytes, calls; a step of a statement. No condition. -/
import Derived.Test.YtdblmoaimghplaaTbD
import Derived.Test.YtdblmoaimghplaaLawN
import Derived.Test.YtdblmoaimghplaaFlat
import Derived.Deep.Slices
namespace Go.Proofs.Ytdblmoaimghplaa
set_option linter.unusedVariables false
set_option linter.unusedSimpArgs false
open Go.ChangeShapes Go.WideShapes Go.RowKit

/-- A slice reads as bytes. -/
def RdBs (w : World) (v : Value) (bs : List Int) : Prop :=
  ∃ ao cap, v = .slice ao bs.length cap ∧ bs.length ≤ cap ∧ ∀ i, i < bs.length → ∃ b o, ao = some ⟨b, o, none⟩ ∧ w.cell? ⟨b, o + i, none⟩ = some (.int .u8 (bs.getD i 0)) ∧ 0 ≤ bs.getD i 0 ∧ bs.getD i 0 ≤ 255
theorem cell_spot {w : World} {a : Addr} {v : Value} (h : w.cell? a = some v) : a.spot = none := by
  unfold World.cell? at h
  split at h
  · split at h
    · cases h
    · rename_i hs; simpa using hs
  · cases h
theorem add_lit (b o i : Nat) : (⟨b, o, none⟩ : Addr).add i = ⟨b, o + i, none⟩ := by
  unfold Addr.add
  split
  · subst_vars; rfl
  · rfl
set_option maxRecDepth 100000 in
theorem open_bytes {H : Type} {enc : TypeId × Value → H} {w : World} {base b0 : Nat} {r : Reach} {spare : Nat → Bool} {held : Bool} {v : Value} {d : DataW H} {ps : List MemPlace} (hv : Value.okWide Try.prog w r b0 22 v) (h : DataW.Trod enc Try.prog w base spare held 22 v d ps) : ∃ bs, RdBs w v bs := by
  obtain ⟨a, len, cap, rfl⟩ := okWide_slice Try.underlying22 hv
  obtain ⟨fuel, h⟩ := h
  rcases Deep.open_slice Try.underlying22 h with ⟨h, _⟩ | ⟨a', len', cap', m, n, D, Pl, h, _, hlc, _, hm, _, hi⟩
  · cases h
    exact ⟨[], none, 0, rfl, Nat.le_refl _, fun i h => by simp at h⟩
  · cases h
    have hc : Try.prog.cellsOf 5 = 1 := by kernel_rfl
    rw [hc] at hi
    have hlm : len ≤ m := by rw [hm]; split <;> omega
    have hex : ∀ i, i < len → ∃ z : Int, w.cell? (a'.add i) = some (.int .u8 z) ∧ 0 ≤ z ∧ z ≤ 255 := by
      intro i hil
      obtain ⟨cs', h1, h2⟩ := hi i (by omega)
      obtain ⟨z, rfl, _, hw⟩ := DataW.trod_int Try.underlying5 h2
      obtain ⟨_, _, hat⟩ := World.cells?_some h1
      have h0 := hat 0 (by decide)
      rw [Nat.mul_one] at h0
      have ha : (a'.add i).add 0 = a'.add i := by unfold Addr.add; simp
      rw [ha] at h0
      simp [Lit.wf, IntKind.min, IntKind.max, IntKind.signed, IntKind.bits] at hw
      exact ⟨z, h0, by omega, by omega⟩
    obtain ⟨f, hf⟩ := Deep.choose_lt hex
    refine ⟨(List.range len).map f, some a', cap, by simp, by simpa using hlc, fun i hil => ?_⟩
    have hkl : i < len := by simpa using hil
    have hg : ((List.range len).map f).getD i 0 = f i := by
      rw [List.getD_eq_getElem?_getD, List.getElem?_map, List.getElem?_range hkl]
      rfl
    rw [hg]
    obtain ⟨g1, g2, g3⟩ := hf i hkl
    have hsp := cell_spot (hf 0 (by omega)).1
    obtain ⟨b, o, s⟩ := a'
    have hs : s = none := by simpa [Addr.add] using hsp
    subst hs
    rw [add_lit] at g1
    exact ⟨b, o, rfl, g1, g2, g3⟩
/-- A call as data. -/
structure Ac where
  x : Int
  a : Int
  n : Int
instance : Inhabited Ac := ⟨⟨0, 0, 0⟩⟩
def Ac.fits (d : Ac) : Prop := (-9223372036854775808 ≤ d.x ∧ d.x ≤ 9223372036854775807) ∧ (-9223372036854775808 ≤ d.a ∧ d.a ≤ 9223372036854775807) ∧ -9223372036854775808 ≤ d.n ∧ d.n ≤ 9223372036854775807
/-- A slice reads as calls. -/
def RdAs (w : World) (v : Value) (xs : List Ac) : Prop :=
  ∃ ao cap, v = .slice ao xs.length cap ∧ xs.length ≤ cap ∧ ∀ i, i < xs.length → ∃ b o d, ao = some ⟨b, o, none⟩ ∧ w.cell? ⟨b, o + i * 3, none⟩ = some (.int .i64 d.x) ∧ w.cell? ⟨b, o + i * 3 + 1, none⟩ = some (.int .i64 d.a) ∧ w.cell? ⟨b, o + i * 3 + 2, none⟩ = some (.int .i64 d.n) ∧ Ac.fits d
theorem ac_words {H : Type} {enc : TypeId × Value → H} {w : World} {base : Nat} {spare : Nat → Bool} {held : Bool} {fuel : Nat} {cs : List Value} {x : DataW H × List MemPlace} (h : DataW.trod enc Try.prog w base spare held fuel 32 cs = some x) : ∃ d : Ac, cs = [.int .i64 d.x, .int .i64 d.a, .int .i64 d.n] ∧ d.fits := by
  have hft : flatT Try.prog 8 32 = some [3, 3, 3] := by kernel_rfl
  obtain ⟨hl, hg⟩ := leaves 8 _ _ hft fuel _ _ h
  obtain ⟨r, e0, w0⟩ := leaf_int (hg 0 _ rfl) Try.underlying3
  obtain ⟨c, e1, w1⟩ := leaf_int (hg 1 _ rfl) Try.underlying3
  obtain ⟨n, e2, w2⟩ := leaf_int (hg 2 _ rfl) Try.underlying3
  have f0 : -9223372036854775808 ≤ r ∧ r ≤ 9223372036854775807 := by simpa [Lit.wf, IntKind.min, IntKind.max, IntKind.signed, IntKind.bits] using w0
  have f1 : -9223372036854775808 ≤ c ∧ c ≤ 9223372036854775807 := by simpa [Lit.wf, IntKind.min, IntKind.max, IntKind.signed, IntKind.bits] using w1
  have f2 : -9223372036854775808 ≤ n ∧ n ≤ 9223372036854775807 := by simpa [Lit.wf, IntKind.min, IntKind.max, IntKind.signed, IntKind.bits] using w2
  match cs, hl with
  | [a, b, d], _ =>
    simp only [List.getElem?_cons_zero, List.getElem?_cons_succ, Option.some.injEq] at e0 e1 e2
    subst e0 e1 e2
    exact ⟨⟨r, c, n⟩, rfl, f0, f1, f2⟩
set_option maxRecDepth 100000 in
theorem open_acts20 {H : Type} {enc : TypeId × Value → H} {w : World} {base b0 : Nat} {r : Reach} {spare : Nat → Bool} {held : Bool} {v : Value} {d : DataW H} {ps : List MemPlace} (hv : Value.okWide Try.prog w r b0 39 v) (h : DataW.Trod enc Try.prog w base spare held 39 v d ps) : ∃ xs, RdAs w v xs := by
  obtain ⟨a, len, cap, rfl⟩ := okWide_slice Try.underlying39 hv
  obtain ⟨fuel, h⟩ := h
  rcases Deep.open_slice Try.underlying39 h with ⟨h, _⟩ | ⟨a', len', cap', m, n, D, Pl, h, _, hlc, _, hm, _, hi⟩
  · cases h
    exact ⟨[], none, 0, rfl, Nat.le_refl _, fun i h => by simp at h⟩
  · cases h
    have hc : Try.prog.cellsOf 32 = 3 := by kernel_rfl
    rw [hc] at hi
    have hlm : len ≤ m := by rw [hm]; split <;> omega
    refine ⟨List.replicate len default, some a', cap, by simp, by simpa using hlc, fun i hil => ?_⟩
    have hkl : i < len := by simpa using hil
    obtain ⟨cs', h1, h2⟩ := hi i (by omega)
    obtain ⟨d, rfl, hd⟩ := ac_words h2
    obtain ⟨_, _, hat⟩ := World.cells?_some h1
    have g0 := hat 0 (by decide)
    have g1 := hat 1 (by decide)
    have g2 := hat 2 (by decide)
    have hsp : a'.spot = none := by
      obtain ⟨cs0, k1, k2⟩ := hi 0 (by omega)
      obtain ⟨d0, rfl, _⟩ := ac_words k2
      obtain ⟨_, _, kat⟩ := World.cells?_some k1
      have := cell_spot (kat 0 (by decide))
      simpa [Addr.add] using this
    obtain ⟨b, o, s⟩ := a'
    have hs : s = none := hsp
    subst hs
    rw [add_lit, add_lit] at g0 g1 g2
    exact ⟨b, o, d, rfl, g0, g1, g2, hd⟩

/-- Both sides, of one's own. -/
def StW (w W : World) (p mb q : Nat) : Prop := (∃ L b, w.heap.size ≤ b ∧ Two W p mb q b L) ∧ Sees w W
theorem StW.next {w W W' : World} {p mb q : Nat} (h : StW w W p mb q) (hs : Sees W W') : StW w W' p mb q := by
  obtain ⟨⟨L, b, h1, h2⟩, h3⟩ := h
  exact ⟨⟨L, b, h1, h2.sees hs⟩, h3.trans hs⟩
theorem does_st {w W : World} {p mb q : Nat} (h : StW w W p mb q) (hp : w.heap.size ≤ p) (hm : w.heap.size ≤ mb) (hq : w.heap.size ≤ q) (x a n : Int) (hn : -9223372036854775808 ≤ n ∧ n ≤ 9223372036854775807) :
    Calls Try.prog 11 #[ptr p, ptr q, .agg #[i64 x, i64 a, i64 n]] W fun e w' => e = .returned (.bool true) ∧ StW w w' p mb q := by
  obtain ⟨⟨L, b, h1, h2⟩, h3⟩ := h
  refine (does_at h2 x a n hn).mono fun e w' ⟨he, ⟨L', b', hb, hT⟩, hK⟩ => ⟨he, ⟨L', b', ?_, hT⟩, ?_⟩
  · rcases hb with rfl | hb
    · exact h1
    · exact Nat.le_trans h3.size hb
  · exact ((Keeps.of_sees (F := fun c => c = p ∨ c = mb ∨ c = q ∨ c = b) h3).trans hK).sees_end (fun c hc e => by rcases e with rfl | rfl | rfl | rfl <;> omega)
/-- Both sides, and a block besides. -/
def StG (w W : World) (p mb q g : Nat) (o : Obj) : Prop := (∃ L b, w.heap.size ≤ b ∧ b ≠ g ∧ Two W p mb q b L) ∧ Sees w W ∧ (W.heap[g]? = some o ∧ g ≠ p ∧ g ≠ mb ∧ g ≠ q)
theorem StG.st {w W : World} {p mb q g : Nat} {o : Obj} (h : StG w W p mb q g o) : StW w W p mb q := by
  obtain ⟨⟨L, b, h1, _, h2⟩, h3, _⟩ := h
  exact ⟨⟨L, b, h1, h2⟩, h3⟩
theorem StW.beside {w W : World} {p mb q : Nat} (h : StW w W p mb q) (cs : Array Value) (t : TypeId) : StG w (W.alloc (.cells cs t)) p mb q W.heap.size (.cells cs t (0, 0)) := by
  obtain ⟨⟨L, b, h1, h2⟩, h3⟩ := h
  have e1 := h2.sp.1.lt
  have e2 := h2.sp.1.mlt
  have e3 := h2.rf.lt
  have e4 := h2.rf.blt
  exact ⟨⟨L, b, h1, by omega, h2.sees ((Sees.refl W).alloc _)⟩, h3.alloc _, heap_alloc_new W _, by omega, by omega, by omega⟩
theorem does_sg {w W : World} {p mb q g : Nat} {o : Obj} (h : StG w W p mb q g o) (hp : w.heap.size ≤ p) (hm : w.heap.size ≤ mb) (hq : w.heap.size ≤ q) (x a n : Int) (hn : -9223372036854775808 ≤ n ∧ n ≤ 9223372036854775807) :
    Calls Try.prog 11 #[ptr p, ptr q, .agg #[i64 x, i64 a, i64 n]] W fun e w' => e = .returned (.bool true) ∧ StG w w' p mb q g o := by
  obtain ⟨⟨L, b, h1, hne, h2⟩, h3, h4, h5, h6, h7⟩ := h
  have hg : g < W.heap.size := (Array.getElem?_eq_some_iff.1 h4).1
  refine (does_at h2 x a n hn).mono fun e w' ⟨he, ⟨L', b', hb, hT⟩, hK⟩ => ⟨he, ⟨L', b', ?_, ?_, hT⟩, ?_, hK.row (fun e => by rcases e with e | e | e | e <;> omega) h4, h5, h6, h7⟩
  · rcases hb with rfl | hb
    · exact h1
    · exact Nat.le_trans h3.size hb
  · rcases hb with rfl | hb
    · exact hne
    · omega
  · exact ((Keeps.of_sees (F := fun c => c = p ∨ c = mb ∨ c = q ∨ c = b) h3).trans hK).sees_end (fun c hc e => by rcases e with rfl | rfl | rfl | rfl <;> omega)
theorem start_st (w : World) (c : Nat) (hc : 1 ≤ c ∧ c ≤ 1000) {W1 : World} {p mb : Nat} (hp : w.heap.size ≤ p) (hm : w.heap.size ≤ mb) (hS : SpAt W1 p mb (defL c)) (s1 : Sees w W1) :
    Calls Try.prog 10 #[i64 c] W1 fun e w' => ∃ q, e = .returned (ptr q) ∧ w.heap.size ≤ q ∧ StW w w' p mb q := by
  have h1 := hS.1.lt
  have h2 := hS.1.mlt
  have h3 := s1.size
  exact (rnew_at W1 c hc).mono fun e w' ⟨q, b, he, hq, hb, hR, s⟩ => ⟨q, he, by omega, ⟨defL c, b, by omega, ⟨hS.sees s, hR, by omega, by omega, by omega, by omega⟩⟩, s1.trans s⟩
end Go.Proofs.Ytdblmoaimghplaa
