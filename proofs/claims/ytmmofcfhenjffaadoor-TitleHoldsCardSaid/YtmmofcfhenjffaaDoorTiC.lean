/- title.Clean (26). No condition. -/
import Derived.Test.YtmmofcfhenjffaaDoorTiW
import Derived.Test.YtmmofcfhenjffaaDoorTiP
import Derived.BigCall
import Derived.IntWalk
namespace Go.Proofs.YtmmofcfhenjffaaDoor
set_option linter.unusedVariables false
set_option linter.unusedSimpArgs false
open Go.RowKit

/-- A string's end, cut off at a place. -/
theorem cut_end (s : ByteArray) (k : IntKind) (pos : Nat) (h : pos ≤ s.size) (W : World) : (Instr.sliceAt 9 (.string s) (some (.int k (pos : Int))) none none).run Tryd.prog W = .ok (.string (s.extract pos s.size)) W := by
  go_simp
set_option maxHeartbeats 4000000 in
set_option maxRecDepth 1000000 in
theorem clean_any (s : ByteArray) (hs : s.size < 4294967281) (w : World) :
    Calls Tryd.prog 10 #[.string s] w fun e w' => e = .returned (.string ⟨(cleanT s.data.toList).toArray⟩) ∧ Sees w w' := by
  go_enter Tryd.func10, Tryd.ntmps10
  go_wp2
  go_loopw [] (fun wr => ∃ (pos fuel : Nat) (acc : List UInt8), Lib.IsBuilderF 49 5 w.heap.size w.heap.size (Lib.byteCells acc) wr ∧ wr.heap[w.heap.size + 1]? = some (.stringIter s pos) ∧ Below w.heap.size w wr ∧ cleanL fuel (s.data.toList.drop pos) acc = cleanT s.data.toList ∧ s.size ≤ pos + fuel ∧ acc.length ≤ 256) (fun wr => s.size - wr.iterPos (w.heap.size + 1))
  case atStart =>
    refine ⟨0, s.size, [], (Lib.IsBuilderF.of (Lib.fresh_isBuilder 49 5 w)).alloc _, ?_, ((Below.refl _ w).alloc (Nat.le_refl _) _).alloc (by simp) _, ?_, by omega, by simp⟩
    · have := World.iter_heap (w.alloc (.cells #[.pointer none, .slice none 0 0] 49)) s 0
      simpa using this
    · unfold cleanT
      rw [List.drop_zero]
      exact cleanL_fuel _ _ _ _ (Nat.le_of_eq (Lib.size_eq s).symm) (Nat.le_refl _)
  case round =>
    obtain ⟨pos, fuel, acc, hI, hit, hbw, hacc, hfu, hal⟩ := hrel
    have hsz : w.heap.size + 1 < wr.heap.size := (Array.getElem?_eq_some_iff.1 hit).1
    by_cases hp : pos < s.size
    · have hnx : ∀ ty, (Instr.next (.pointer (some ⟨w.heap.size + 1, 0, none⟩)) true ty).run Tryd.prog wr = _ := fun ty => Lib.run_next_any_at wr (w.heap.size + 1) s pos ty hit hp
      have hI2 := hI.iterAt hit (pos + (Utf8.decode s pos).2)
      have hit2 := Lib.iterAt_heap wr (w.heap.size + 1) s pos (pos + (Utf8.decode s pos).2) hit
      have hbw2 := Lib.below_iterAt hbw (k := w.heap.size + 1) (by omega) s (pos + (Utf8.decode s pos).2)
      have hsz2 : w.heap.size ≤ (wr.iterAt (w.heap.size + 1) s (pos + (Utf8.decode s pos).2)).heap.size := by rw [Lib.iterAt_size]; omega
      obtain ⟨f, rfl⟩ : ∃ f, fuel = f + 1 := ⟨fuel - 1, by omega⟩
      have hne : s.data.toList.drop pos ≠ [] := fun e => by
        have := congrArg List.length e
        rw [List.length_drop, ← Lib.size_eq] at this
        simp at this
        omega
      have hra := runeAt (s.data.toList.drop pos) hne
      have hgl := good_len (s.data.toList.drop pos) hne
      have hbig := Lib.decodeL_rune (s.data.toList.drop pos)
      have hwid := Lib.decodeL_width (s.data.toList.drop pos)
      have hwle := Lib.decodeL_le (s.data.toList.drop pos) hne
      have hdr : (s.data.toList.drop pos).drop (Lib.decodeL (s.data.toList.drop pos)).2 = s.data.toList.drop (pos + (Lib.decodeL (s.data.toList.drop pos)).2) := by rw [List.drop_drop]
      simp only [cleanL, if_neg hne, hdr] at hacc
      have hcut := cut_end s .i64 pos (by omega)
      rw [Lib.decodeL_drop] at hra hgl hbig hwid hwle hacc
      rw [List.length_drop, ← Lib.size_eq] at hwle
      have hhp : ∀ W, Calls Tryd.prog 23 #[.string (s.extract pos s.size), .string ⟨#[239, 191, 189]⟩] W fun e w' => e = .returned (.bool (Lib.hasPrefix (s.data.toList.drop pos) [239, 191, 189])) ∧ w' = W := fun W => by
        have q := hasp_any (s.extract pos s.size) ⟨#[239, 191, 189]⟩ W
        rw [Lib.extract_to_end] at q
        exact q
      obtain ⟨b1, g1⟩ : ∃ b, b = (((Utf8.decode s pos).1 : Int) == 65533) := ⟨_, rfl⟩
      obtain ⟨b2, g2⟩ : ∃ b, b = Lib.hasPrefix (s.data.toList.drop pos) [239, 191, 189] := ⟨_, rfl⟩
      obtain ⟨b3, g3⟩ : ∃ b, b = decide (((Utf8.decode s pos).1 : Int) < 32) := ⟨_, rfl⟩
      obtain ⟨b4, g4⟩ : ∃ b, b = decide (((Utf8.decode s pos).1 : Int) ≥ 127) := ⟨_, rfl⟩
      obtain ⟨b5, g5⟩ : ∃ b, b = decide (((Utf8.decode s pos).1 : Int) ≤ 159) := ⟨_, rfl⟩
      obtain ⟨b6, g6⟩ : ∃ b, b = badR (Utf8.decode s pos) := ⟨_, rfl⟩
      have g7 : decide (127 ≤ ((Utf8.decode s pos).1 : Int)) = b4 := by rw [g4]
      rw [← g1, ← g2, ← g3, ← g4, ← g5, ← g6] at hra
      rw [← g6] at hgl hacc
      simp only [← g2] at hhp
      replace g1 := g1.symm
      replace g3 := g3.symm
      replace g4 := g4.symm
      replace g5 := g5.symm
      clear g2 g6 hdr hne
      cases hra
      case' fffdBad | low | ctl =>
        go_wp2_with (first
          | (go_at_call 22; refine (runelen_any _ _).mono ?_)
          | (go_at_call 23; refine (hhp _).mono ?_))
        try (rintro e W0 ⟨rfl, rfl⟩; go_wp2)
        go_roundw
        case rel =>
          refine ⟨pos + (Utf8.decode s pos).2, f, acc, hI2, hit2, hbw2, by simpa using hacc, by omega, hal⟩
        case measure =>
          simp only [World.iterPos, hit2, hit]
          omega
      all_goals
        obtain ⟨hl, he⟩ := hgl rfl
        rw [if_neg (by simp)] at hacc
        have hw4 := Lib.runeCells_le ((Utf8.decode s pos).1 : Int)
        have hw5 : (Utf8.decode s pos).2 ≤ 4 := by
          have := Lib.runeCells_length ((Utf8.decode s pos).1 : Int)
          have := congrArg List.length he
          rw [List.length_take, List.length_drop, ← Lib.size_eq] at this
          omega
        rcases Bool.eq_false_or_eq_true (decide ((acc.length : Int) + ((Utf8.decode s pos).2 : Int) > 256)) with hx | hx
      all_goals
        go_wp2_with (first
          | (go_at_call 22; refine (runelen_any _ _).mono ?_)
          | (go_at_call 24; refine (blenL w.heap.size w.heap.size acc _ hI2).mono ?_)
          | (go_at_call 25; refine (write_rune w.heap.size w.heap.size _ _ (by omega) (by omega) _ hI2 (by rw [Lib.byteCells_length]; omega) hsz2).mono ?_)
          | (go_at_call 26; refine (bstr w.heap.size w.heap.size acc _ hI2 hsz2).mono ?_)
          | (go_at_call 23; refine (hhp _).mono ?_))
      all_goals repeat
        rintro e W0 ⟨rfl, rfl⟩
        go_wp2_with (first
          | (go_at_call 24; refine (blenL w.heap.size w.heap.size acc _ hI2).mono ?_)
          | (go_at_call 25; refine (write_rune w.heap.size w.heap.size _ _ (by omega) (by omega) _ hI2 (by rw [Lib.byteCells_length]; omega) hsz2).mono ?_)
          | (go_at_call 26; refine (bstr w.heap.size w.heap.size acc _ hI2 hsz2).mono ?_))
      all_goals first
        | (have hx2 := of_decide_eq_true hx
           rintro e W1 ⟨rfl, b1⟩
           go_wp2
           go_ret
           rw [if_pos (by omega)] at hacc
           subst hacc
           exact ⟨rfl, hbw2.trans b1⟩)
        | (have hx2 := of_decide_eq_false hx
           rintro e W1 ⟨rfl, h1, b1, k1⟩
           go_wp2
           go_roundw
           case rel =>
             rw [if_neg (by omega)] at hacc
             have hmin : (List.take (Utf8.decode s pos).2 (s.data.toList.drop pos)).length = (Utf8.decode s pos).2 := by rw [List.length_take, List.length_drop, ← Lib.size_eq]; omega
             refine ⟨pos + (Utf8.decode s pos).2, f, acc ++ List.take (Utf8.decode s pos).2 (s.data.toList.drop pos), ?_, k1.iter hit2 (by omega), hbw2.trans b1, hacc, by omega, ?_⟩
             · rw [← he, Lib.byteCells_append, Lib.byteCells_encodeRune]; exact Or.inr h1
             · rw [List.length_append, hmin]
               omega
           case measure =>
             simp only [World.iterPos, k1.iter hit2 (by omega), hit]
             omega)
    · have hnx : ∀ ty, (Instr.next (.pointer (some ⟨w.heap.size + 1, 0, none⟩)) true ty).run Tryd.prog wr = _ := fun ty => Lib.run_next_end_at wr (w.heap.size + 1) s pos ty hit hp
      go_wp2_with (go_at_call 26; refine (bstr w.heap.size w.heap.size acc _ hI (by omega)).mono ?_)
      rintro e W1 ⟨rfl, b1⟩
      go_wp2
      go_ret
      have hnil : s.data.toList.drop pos = [] := List.drop_eq_nil_of_le (by rw [← Lib.size_eq]; omega)
      rw [hnil, cleanL_nil] at hacc
      subst hacc
      exact ⟨rfl, hbw.trans b1⟩
end Go.Proofs.YtmmofcfhenjffaaDoor
