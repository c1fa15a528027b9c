/- Steps of TabsPlays (20): a copy that goes on while the first one is turned. No condition. -/
import Derived.Test.YtdblmoaimghplaaTbO
namespace Go.Proofs.Ytdblmoaimghplaa
set_option linter.unusedVariables false
set_option linter.unusedSimpArgs false
open Go.RowKit

/-- The copy with the reference, and the first one besides. -/
def StC (w W : World) (p mb p2 m2 q : Nat) : Prop := (∃ L L2 b, w.heap.size ≤ b ∧ Two W p2 m2 q b L ∧ SpAt W p mb L2 ∧ p2 ≠ mb ∧ m2 ≠ mb ∧ q ≠ mb ∧ b ≠ mb) ∧ Sees w W
theorem StC.st {w W : World} {p mb p2 m2 q : Nat} (h : StC w W p mb p2 m2 q) : StW w W p2 m2 q := by
  obtain ⟨⟨L, L2, b, h1, h2, _⟩, h3⟩ := h
  exact ⟨⟨L, b, h1, h2⟩, h3⟩
theorem copy_st {w W : World} {p mb q : Nat} (h : StW w W p mb q) :
    Calls Try.prog 23 #[ptr p] W fun e w' => ∃ p2 m2, e = .returned (ptr p2) ∧ w.heap.size ≤ p2 ∧ w.heap.size ≤ m2 ∧ StC w w' p mb p2 m2 q := by
  obtain ⟨⟨L, b, h1, h2⟩, h3⟩ := h
  have e2 := h2.sp.1.mlt
  have e3 := h2.rf.lt
  have e4 := h2.rf.blt
  have e5 := h3.size
  have n3 := h2.n3
  have n4 := h2.n4
  exact (copy_at h2.sp).mono fun e w' ⟨p2, m2, he, k1, k2, k3, k4⟩ => ⟨p2, m2, he, by omega, by omega, ⟨L, L, b, h1, ⟨k3, h2.rf.sees k4, by omega, by omega, by omega, by omega⟩, h2.sp.sees k4, by omega, by omega, by omega, by omega⟩, h3.trans k4⟩
theorem turn_sc {w W W' : World} {p mb p2 m2 q : Nat} {L2' : List Bool} (h : StC w W p mb p2 m2 q) (hm : w.heap.size ≤ mb) (hp : SpAt W' p mb L2') (hk : Keeps (fun c => c = mb) W W') : StC w W' p mb p2 m2 q := by
  obtain ⟨⟨L, L2, b, h1, h2, _, n1, n2, n3, n4⟩, h3⟩ := h
  exact ⟨⟨L, L2', b, h1, ⟨h2.sp.keeps hk n1 n2, h2.rf.keeps hk n3 n4, h2.n1, h2.n2, h2.n3, h2.n4⟩, hp, n1, n2, n3, n4⟩, ((Keeps.of_sees (F := fun c => c = mb) h3).trans hk).sees_end (fun c hc e => by omega)⟩
theorem reset_sc {w W : World} {p mb p2 m2 q : Nat} (h : StC w W p mb p2 m2 q) (hm : w.heap.size ≤ mb) : Calls Try.prog 17 #[ptr p] W fun e w' => e = .returned (i64 0) ∧ StC w w' p mb p2 m2 q := by
  have h0 := h
  obtain ⟨⟨L, L2, b, h1, h2, hp, n1, n2, n3, n4⟩, h3⟩ := h
  exact (reset_at hp).mono fun e w' ⟨he, k1, k2⟩ => ⟨he, turn_sc h0 hm k1 k2⟩
theorem set_sc {w W : World} {p mb p2 m2 q : Nat} (h : StC w W p mb p2 m2 q) (hm : w.heap.size ≤ mb) : Calls Try.prog 15 #[ptr p, i64 0] W fun e w' => e = .returned (i64 0) ∧ StC w w' p mb p2 m2 q := by
  have h0 := h
  obtain ⟨⟨L, L2, b, h1, h2, hp, n1, n2, n3, n4⟩, h3⟩ := h
  exact (set_in hp 0 (by have := hp.2; omega)).mono fun e w' ⟨he, k1, k2⟩ => ⟨he, turn_sc h0 hm k1 k2⟩
end Go.Proofs.Ytdblmoaimghplaa
