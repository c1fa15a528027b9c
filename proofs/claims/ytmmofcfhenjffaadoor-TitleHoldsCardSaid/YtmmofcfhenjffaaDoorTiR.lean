/- The reference of 26: first, Shown, before. No condition. -/
import Derived.Test.YtmmofcfhenjffaaDoorTiC
import Derived.Test.YtmmofcfhenjffaaDoorTiQ
import Derived.OwnWalk
namespace Go.Proofs.YtmmofcfhenjffaaDoor
set_option linter.unusedVariables false
set_option linter.unusedSimpArgs false
open Go.RowKit

set_option maxHeartbeats 1000000 in
theorem shown_any (r : Int) (w : World) : Calls Tryd.prog 28 #[.int .i32 r] w fun e w' => e = .returned (.bool (!(decide (r < 32) || (decide (127 ≤ r) && decide (r ≤ 159))))) ∧ w' = w := by
  rcases Bool.eq_false_or_eq_true (decide (r ≥ 32)) with c1 | c1 <;> rcases Bool.eq_false_or_eq_true (decide (r < 127)) with c2 | c2 <;> rcases Bool.eq_false_or_eq_true (decide (r > 159)) with c3 | c3
  all_goals
    have g1 : decide (32 ≤ r) = decide (r ≥ 32) := rfl
    rw [c1] at g1
    go_enter Tryd.func28, Tryd.ntmps28
    go_wp2
    go_ret
    refine ⟨ret_bool ?_, rfl⟩
    simp only [decide_eq_true_eq, decide_eq_false_iff_not] at c1 c2 c3
    symm
    simp
    omega
/-- What before gives. -/
def befV (s : ByteArray) (b : UInt8) : Value := match bef b s.data.toList with
  | none => .tuple #[.string s, .string ⟨#[]⟩, .bool false]
  | some p => .tuple #[.string ⟨p.1.toArray⟩, .string ⟨p.2.toArray⟩, .bool true]
theorem cut_head (s : ByteArray) (k : IntKind) (pos : Nat) (h : pos ≤ s.size) (W : World) : (Instr.sliceAt 9 (.string s) none (some (.int k (pos : Int))) none).run Tryd.prog W = .ok (.string (s.extract 0 pos)) W := by
  rw [run_sliceAt_string (P := Tryd.prog) (h := Tryd.underlying9), run_slice_string_h (P := Tryd.prog) (ht := Tryd.underlying9) (h0 := by omega) (h2 := by omega)]
  simp
theorem head_eq (s : ByteArray) (k : Nat) : s.extract 0 k = ⟨(s.data.toList.take k).toArray⟩ := by
  apply ByteArray.ext
  rw [← Array.toList_inj, Lib.extract_from_zero]
theorem tail_eq (s : ByteArray) (k : Nat) : s.extract k s.size = ⟨(s.data.toList.drop k).toArray⟩ := by
  apply ByteArray.ext
  rw [← Array.toList_inj, Lib.extract_to_end]
theorem byteAt (s : ByteArray) (k : Nat) (h : k < s.size) (W : World) : (Instr.index 9 (.string s) (.int .i64 (k : Int))).run Tryd.prog W = .ok (.int .u8 ((s.data.toList.getD k 0).toNat : Int)) W := by
  rw [run_index_string (h := Tryd.underlying9), dif_pos ⟨by omega, by omega⟩]
  simp only [Int.toNat_natCast]
  rw [List.getD_eq_getElem?_getD, List.getElem?_eq_getElem (by rw [← Lib.size_eq]; exact h)]
  rfl
set_option maxHeartbeats 4000000 in
set_option maxRecDepth 100000 in
theorem before_any (s : ByteArray) (hs : s.size ≤ 281474976710656) (b : UInt8) (w : World) :
    Calls Tryd.prog 29 #[.string s, .int .u8 (b.toNat : Int)] w fun e w' => e = .returned (befV s b) ∧ Sees w w' := by
  have hr := Sees.refl w
  obtain ⟨c, hc⟩ : ∃ c : Int, c = (b.toNat : Int) := ⟨_, rfl⟩
  rw [← hc]
  replace hc := Lib.hid hc
  go_enter Tryd.func29, Tryd.ntmps29
  go_wp2
  go_loop [7] (fun i => ∃ k : Nat, k ≤ s.size ∧ i = .int .i64 k ∧ RowKit.Hid (∀ j < k, s.data.toList[j]? ≠ some b)) (fun i => s.size - (intOf i).toNat)
  case atStart => exact ⟨0, by omega, rfl, Lib.hid fun j hj => by omega⟩
  case round =>
    obtain ⟨k, hk, rfl, hm⟩ := hrel
    by_cases hlt : k < s.size
    · have hb := byteAt s k hlt
      have hget : s.data.toList[k]? = some (s.data.toList.getD k 0) := by
        rw [List.getD_eq_getElem?_getD, List.getElem?_eq_getElem (by rw [← Lib.size_eq]; exact hlt)]
        rfl
      replace hget := Lib.hid hget
      generalize s.data.toList.getD k 0 = x at hb hget
      obtain ⟨y, hy⟩ : ∃ y : Int, y = (x.toNat : Int) := ⟨_, rfl⟩
      rw [← hy] at hb
      replace hy := Lib.hid hy
      rcases Bool.eq_false_or_eq_true (y == c) with q | q
      · have hq : x = b := UInt8.toNat_inj.1 (by have := beq_iff_eq.1 q; rw [hy.out, hc.out] at this; omega)
        have hV : RowKit.Hid (befV s b = .tuple #[.string (s.extract 0 k), .string (s.extract (k + 1) s.size), .bool true]) := Lib.hid (by
          unfold befV
          rw [bef_at (by rw [← Lib.size_eq]; exact hlt) (by rw [hget.out, hq]) hm.out, head_eq, tail_eq])
        have h1 := cut_head s .i64 k (by omega)
        have h2 := cut_end s .i64 (k + 1) (by omega)
        rw [show (((k + 1 : Nat) : Int)) = (k : Int) + 1 from by omega] at h2
        go_wp2_with fail
        go_region
        go_wp2
        go_ret3
        exact ⟨by rw [hV.out]; rfl, hr.drew⟩
      · have hn : RowKit.Hid (∀ j < k + 1, s.data.toList[j]? ≠ some b) := Lib.hid (fun j hj => by
          rcases Nat.lt_or_eq_of_le (Nat.le_of_lt_succ hj) with h | rfl
          · exact hm.out j h
          · rw [hget.out]
            intro e
            injection e with e
            rw [beq_eq_false_iff_ne] at q
            exact q (by rw [hy.out, hc.out, e]))
        go_wp2
        go_round
        case rel => exact ⟨k + 1, by omega, by go_num, hn⟩
        case measure => simp [intOf]; omega
    · obtain rfl : k = s.size := by omega
      have hV : RowKit.Hid (befV s b = .tuple #[.string s, .string ⟨#[]⟩, .bool false]) := Lib.hid (by
        unfold befV
        rw [bef_off (by rw [← Lib.size_eq]; exact hm.out)])
      go_wp2
      go_ret3
      exact ⟨by rw [hV.out]; rfl, hr⟩

open Go.Lib
/-- How many bytes the valid rune has that a string begins with. -/
def firstN (l : List UInt8) : Nat := if (decodeL l).1 = 65533 ∧ (decodeL l).2 = 1 then 0 else (decodeL l).2
/-- What can stand at a string's beginning, in the walk's words: r >= 0x80, r >= 0x800, r >= 0x10000, r == 0xfffd, and U+FFFD is there. -/
inductive FirstAt : Bool → Bool → Bool → Bool → Bool → Nat → Prop
  | one (p : Bool) : FirstAt false false false false p 1
  | two (p : Bool) : FirstAt true false false false p 2
  | three (p : Bool) : FirstAt true true false false p 3
  | four (p : Bool) : FirstAt true true true false p 4
  | good : FirstAt true true false true true 3
  | bad : FirstAt true true false true false 0
set_option maxRecDepth 100000 in
theorem firstAt (l : List UInt8) (hne : l ≠ []) : FirstAt (decide (((decodeL l).1 : Int) ≥ 128)) (decide (((decodeL l).1 : Int) ≥ 2048)) (decide (((decodeL l).1 : Int) ≥ 65536)) (((decodeL l).1 : Int) == 65533) (Lib.hasPrefix l [239, 191, 189]) (firstN l) := by
  have hf := dec_fffd l hne
  unfold firstN
  generalize Lib.hasPrefix l [239, 191, 189] = p at hf ⊢
  rw [decodeL_N] at hf ⊢
  have hb0 := (l.getD 0 0).toNat_lt
  have hb1 := (l.getD 1 0).toNat_lt
  have hb2 := (l.getD 2 0).toNat_lt
  rcases decodeN_shape l.length (l.getD 0 0).toNat (l.getD 1 0).toNat (l.getD 2 0).toNat (l.getD 3 0).toNat with ⟨c, e⟩ | ⟨c1, c2, c3, cv, e⟩ | ⟨c1, c2, c3, c4, cv, cs, e⟩ | ⟨c1, c2, c3, c4, c5, cv, cw, e⟩ | e
  all_goals
    rw [e] at hf ⊢
    simp only at hf ⊢
  · rw [decide_eq_false (by omega), decide_eq_false (by omega), decide_eq_false (by omega), beq_eq_false_iff_ne.2 (by omega), if_neg (by omega)]
    exact .one p
  · rw [decide_eq_true (by omega), decide_eq_false (by omega), decide_eq_false (by omega), beq_eq_false_iff_ne.2 (by omega), if_neg (by omega)]
    exact .two p
  · rw [decide_eq_true (by omega), decide_eq_true (by omega), decide_eq_false (by omega), if_neg (by omega)]
    by_cases hq : (l.getD 0 0).toNat % 16 * 4096 + (l.getD 1 0).toNat % 64 * 64 + (l.getD 2 0).toNat % 64 = 65533
    · rcases hf hq with ⟨h, _⟩ | ⟨_, rfl⟩
      · omega
      · rw [beq_iff_eq.2 (by omega)]
        exact .good
    · rw [beq_eq_false_iff_ne.2 (by omega)]
      exact .three p
  · rw [decide_eq_true (by omega), decide_eq_true (by omega), decide_eq_true (by omega), beq_eq_false_iff_ne.2 (by omega), if_neg (by omega)]
    exact .four p
  · have hp : p = false := by simpa using hf
    subst hp
    exact .bad
theorem pre3 (s : ByteArray) (h : 3 ≤ s.size) : Lib.hasPrefix s.data.toList [239, 191, 189] = ((s.extract 0 3).toList == [239, 191, 189]) := by
  rw [Lib.toList_data, Lib.extract_from_zero]
  rw [Lib.size_eq] at h
  match s.data.toList, h with
  | a :: b :: c :: t, _ =>
    simp only [Lib.hasPrefix, List.isPrefixOf, List.take_succ_cons, List.take_zero, Bool.and_true]
    rw [Bool.eq_iff_iff]
    simp only [Bool.and_eq_true, beq_iff_eq, List.cons.injEq, and_true]
    constructor <;> (rintro ⟨rfl, rfl, rfl⟩; exact ⟨rfl, rfl, rfl⟩)
theorem pre3_short (l : List UInt8) (h : l.length < 3) : Lib.hasPrefix l [239, 191, 189] = false := by
  cases hp : Lib.hasPrefix l [239, 191, 189] with
  | false => rfl
  | true =>
    have := (List.isPrefixOf_iff_prefix.1 hp).length_le
    simp at this
    omega
set_option maxHeartbeats 4000000 in
set_option maxRecDepth 100000 in
theorem first_any (s : ByteArray) (hs : s.size ≤ 281474976710656) (h0 : 0 < s.size) (w : World) :
    Calls Tryd.prog 27 #[.string s] w fun e w' => e = .returned (.int .i64 (firstN s.data.toList : Nat)) ∧ Sees w w' := by
  have hne : s.data.toList ≠ [] := fun e => by
    have : s.size = 0 := by rw [Lib.size_eq, e]; rfl
    omega
  have hfa := firstAt s.data.toList hne
  rw [show Lib.decodeL s.data.toList = Utf8.decode s 0 from by rw [← Lib.decodeL_drop]; rfl] at hfa
  have hp3 := fun h => pre3 s h
  have hps := fun h => pre3_short s.data.toList h
  rw [← Lib.size_eq] at hps
  obtain ⟨b1, g1⟩ : ∃ b, b = decide (((Utf8.decode s 0).1 : Int) ≥ 128) := ⟨_, rfl⟩
  obtain ⟨b2, g2⟩ : ∃ b, b = decide (((Utf8.decode s 0).1 : Int) ≥ 2048) := ⟨_, rfl⟩
  obtain ⟨b3, g3⟩ : ∃ b, b = decide (((Utf8.decode s 0).1 : Int) ≥ 65536) := ⟨_, rfl⟩
  obtain ⟨b4, g4⟩ : ∃ b, b = (((Utf8.decode s 0).1 : Int) == 65533) := ⟨_, rfl⟩
  obtain ⟨b5, g5⟩ : ∃ b, b = Lib.hasPrefix s.data.toList [239, 191, 189] := ⟨_, rfl⟩
  obtain ⟨n, hn⟩ : ∃ n, n = firstN s.data.toList := ⟨_, rfl⟩
  rw [← g1, ← g2, ← g3, ← g4, ← g5, ← hn] at hfa
  rw [← hn]
  rw [← g5] at hp3 hps
  replace g1 := g1.symm
  replace g2 := g2.symm
  replace g3 := g3.symm
  replace g4 := g4.symm
  have k1 : decide (128 ≤ ((Utf8.decode s 0).1 : Int)) = b1 := g1
  have k2 : decide (2048 ≤ ((Utf8.decode s 0).1 : Int)) = b2 := g2
  have k3 : decide (65536 ≤ ((Utf8.decode s 0).1 : Int)) = b3 := g3
  clear g5 hn hne
  go_enter Tryd.func27, Tryd.ntmps27
  go_wp2
  go_loopw [] (fun wr => wr.heap[w.heap.size]? = some (.stringIter s 0) ∧ Sees w wr) (fun wr => s.size - wr.iterPos w.heap.size)
  case atStart =>
    exact ⟨World.iter_heap w s 0, (Sees.refl w).alloc _⟩
  case round =>
    obtain ⟨hit, hse⟩ := hrel
    have hnx : ∀ ty, (Instr.next (.pointer (some ⟨w.heap.size, 0, none⟩)) true ty).run Tryd.prog wr = _ := fun ty => Lib.run_next_any_at wr w.heap.size s 0 ty hit h0
    have hse2 : Sees w (wr.iterAt w.heap.size s (0 + (Utf8.decode s 0).2)) := Lib.below_iterAt hse (Nat.le_refl _) s _
    rw [Nat.zero_add] at hse2
    have hc3 : 3 ≤ s.size → ∀ W, (Instr.sliceAt 9 (.string s) none (some (.int .i64 3)) none).run Tryd.prog W = .ok (.string (s.extract 0 3)) W := fun h W => cut_head s .i64 3 h W
    cases hfa
    case good =>
      have h3 : 3 ≤ s.size := by
        rcases Nat.lt_or_ge s.size 3 with h | h
        · exact absurd (hps h) (by decide)
        · exact h
      have f1 : decide ((s.size : Int) < 3) = false := decide_eq_false (by omega)
      have f2 := (hp3 h3).symm
      have f3 := hc3 h3
      clear hp3 hps hc3
      go_wp2
      go_ret
      exact ⟨rfl, hse2⟩
    case bad =>
      rcases Nat.lt_or_ge s.size 3 with h3 | h3
      · have f1 : decide ((s.size : Int) < 3) = true := decide_eq_true (by omega)
        clear hp3 hps hc3
        go_wp2
        go_ret
        exact ⟨rfl, hse2⟩
      · have f1 : decide ((s.size : Int) < 3) = false := decide_eq_false (by omega)
        have f2 := (hp3 h3).symm
        have f3 := hc3 h3
        clear hp3 hps hc3
        go_wp2
        go_ret
        exact ⟨rfl, hse2⟩
    all_goals
      clear hp3 hps
      go_wp2
      go_ret
      exact ⟨rfl, hse2⟩
end Go.Proofs.YtmmofcfhenjffaaDoor
