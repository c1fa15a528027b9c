/- text.Width (40). The tables hold what the program's text lays. -/
import Derived.Test.YtfdolhppbimbmaaDoorTtE
import Derived.Lib.RuneLoops
import Derived.Lib.MapLaws
namespace Go.Proofs.YtfdolhppbimbmaaDoor
set_option linter.unusedVariables false
set_option linter.unusedSimpArgs false
open Go.RowKit

/-- A string's runes. -/
def runesF (s : ByteArray) : Nat → Nat → List Int
  | 0, _ => []
  | f + 1, pos => if pos < s.size then ((Utf8.decode s pos).1 : Int) :: runesF s f (pos + (Utf8.decode s pos).2) else []
def runesS (s : ByteArray) : List Int := runesF s s.size 0
def widL (rs : List Int) : Int := (rs.map fun r => max 0 (wOf r)).sum
theorem widL_cons (r : Int) (rs : List Int) : widL (r :: rs) = max 0 (wOf r) + widL rs := by simp [widL]
theorem dec_width (s : ByteArray) (pos : Nat) (h : pos < s.size) : 1 ≤ (Utf8.decode s pos).2 ∧ pos + (Utf8.decode s pos).2 ≤ s.size := by
  have hne : s.data.toList.drop pos ≠ [] := fun e => by
    have := congrArg List.length e
    rw [List.length_drop, ← Lib.size_eq] at this
    simp at this
    omega
  have hwid := Lib.decodeL_width (s.data.toList.drop pos)
  have hwle := Lib.decodeL_le (s.data.toList.drop pos) hne
  rw [Lib.decodeL_drop] at hwid hwle
  rw [List.length_drop, ← Lib.size_eq] at hwle
  omega
set_option maxHeartbeats 4000000 in
set_option maxRecDepth 100000 in
theorem twidth_any (s : ByteArray) (hs : s.size ≤ 1000000) (w : World) (ht : Tabs w) :
    Calls Tryd.prog 62 #[.string s] w fun e w' => e = .returned (.int .i64 (widL (runesS s))) ∧ Sees w w' := by
  have KW := Lib.hid (fun r W (hW : Sees w W) => widthOf_any r W (ht.sees hW))
  obtain ⟨T, hT⟩ : ∃ T, T = widL (runesS s) := ⟨_, rfl⟩
  have HT : Hid (widL (runesF s s.size 0) = T) := hT.symm
  rw [← hT]
  clear ht hT
  go_enter Tryd.func62, Tryd.ntmps62
  go_wp2
  go_loopw [3] (fun n wr => ∃ (pos fuel : Nat) (acc : Int), wr.heap[w.heap.size]? = some (.stringIter s pos) ∧ n = .int .i64 acc ∧ Hid (acc + widL (runesF s fuel pos) = T) ∧ s.size ≤ pos + fuel ∧ 0 ≤ acc ∧ acc ≤ 2 * pos ∧ pos ≤ s.size ∧ Sees w wr) (fun _ wr => s.size - wr.iterPos w.heap.size)
  case atStart => exact ⟨0, s.size, 0, World.iter_heap w s 0, rfl, (by unfold RowKit.Hid; rw [Int.zero_add]; exact HT.out), by omega, by omega, by omega, by omega, (Sees.refl w).alloc _⟩
  case round =>
    obtain ⟨pos, fuel, acc, hit, rfl, hacc, hfu, ha0, ha1, hp1, hS⟩ := hrel
    have hsz : w.heap.size < wr.heap.size := (Array.getElem?_eq_some_iff.1 hit).1
    by_cases hp : pos < s.size
    · have hnx : ∀ ty, (Instr.next (.pointer (some ⟨w.heap.size, 0, none⟩)) true ty).run Tryd.prog wr = _ := fun ty => Lib.run_next_any_at wr w.heap.size s pos ty hit hp
      have hit2 := Lib.iterAt_heap wr w.heap.size s pos (pos + (Utf8.decode s pos).2) hit
      have hS2 : Sees w (wr.iterAt w.heap.size s (pos + (Utf8.decode s pos).2)) := Lib.below_iterAt hS (k := w.heap.size) (Nat.le_refl _) s (pos + (Utf8.decode s pos).2)
      obtain ⟨f, rfl⟩ : ∃ f, fuel = f + 1 := ⟨fuel - 1, by omega⟩
      have hdw := dec_width s pos hp
      obtain ⟨x, hx⟩ : ∃ x, x = wOf ((Utf8.decode s pos).1 : Int) := ⟨_, rfl⟩
      have hxr := wOf_range ((Utf8.decode s pos).1 : Int)
      rw [← hx] at hxr
      have KX : Hid (∀ W, Sees w W → Calls Tryd.prog 99 #[.int .i32 ((Utf8.decode s pos).1 : Int)] W fun e w' => e = .returned (.int .i64 x) ∧ Sees W w') := fun W hW => by rw [hx]; exact KW.out _ W hW
      obtain ⟨m, hm⟩ : ∃ m, m = max 0 x := ⟨_, rfl⟩
      have hmx : max (0 : Int) x = m := hm.symm
      have hm2 : 0 ≤ m ∧ m ≤ 2 := by omega
      have hacc2 : Hid ((acc + m) + widL (runesF s f (pos + (Utf8.decode s pos).2)) = T) := by
        unfold RowKit.Hid
        rw [← hacc.out, runesF, if_pos hp, widL_cons, ← hx, ← hm]
        omega
      have HIT := Lib.hid hit
      have HIT2 := Lib.hid hit2
      have HS2 := Lib.hid hS2
      have HPP := Lib.hid (iterPos_of hit)
      have HDW := Lib.hid hdw
      have HM2 := Lib.hid hm2
      clear hx hm hacc hit hit2 hS hS2 hdw hxr hm2
      go_wp2_with fail
      refine (KX.out _ HS2.out).mono ?_
      rintro e W2 ⟨rfl, sw⟩
      have hk2 : W2.heap[w.heap.size]? = some (.stringIter s (pos + (Utf8.decode s pos).2)) := by
        rw [sw.block _ (Array.getElem?_eq_some_iff.1 HIT2.out).1]
        exact HIT2.out
      have HK2 := Lib.hid hk2
      have HS3 := Lib.hid (HS2.out.trans sw)
      have ha2 : IntKind.i64.wrap (acc + m) = acc + m := IntWalk.i64_in _ (by have := HM2.out; omega)
      clear hk2 sw hnx
      go_wp2
      refine ⟨⟨pos + (Utf8.decode s pos).2, f, acc + m, HK2.out, by go_num, hacc2, by have := HDW.out; omega, by have := HM2.out; omega, by have := HM2.out; have := HDW.out; omega, by have := HDW.out; omega, HS3.out⟩, ?_⟩
      have e1 := iterPos_of HK2.out
      have e2 := HPP.out
      have := HDW.out
      rw [e1, e2]
      omega
    · have hnx : ∀ ty, (Instr.next (.pointer (some ⟨w.heap.size, 0, none⟩)) true ty).run Tryd.prog wr = _ := fun ty => Lib.run_next_end_at wr w.heap.size s pos ty hit hp
      have hfin : acc = T := by
        rw [← hacc.out]
        cases fuel with
        | zero => simp [runesF, widL]
        | succ f => rw [runesF, if_neg hp]; simp [widL]
      have HF := Lib.hid hfin
      have HS2 := Lib.hid hS
      clear hfin hacc hS
      go_wp2
      go_ret
      exact ⟨by rw [← HF.out]; rfl, HS2.out⟩
end Go.Proofs.YtfdolhppbimbmaaDoor
