/- Commands and their texts (26), in plain Lean: the text of a command says the command; what is said is a command. No condition. -/
import Derived.Test.YtmmofcfhenjffaaDoorTiK
namespace Go.Proofs.YtmmofcfhenjffaaDoor
set_option linter.unusedVariables false
set_option linter.unusedSimpArgs false
open Go.RowKit

theorem gr_not {b : UInt8} {ex l : List UInt8} (h : gr ex l = true) (hb : grB ex b = false) : b ∉ l := fun hm => by
  have := List.all_eq_true.1 h b hm
  rw [hb] at this
  cases this
theorem linkErr_ok {id text : List UInt8} : linkErr id text = 0 ↔ text.length ≤ 512 ∧ id.length ≤ 64 ∧ gr [] text = true ∧ gr [58, 59] id = true := by
  unfold linkErr
  split
  · rename_i h
    constructor
    · intro e; cases e
    · rintro ⟨h1, h2, _⟩; omega
  · rename_i h
    split
    · rename_i g
      rw [Bool.and_eq_true] at g
      exact ⟨fun _ => ⟨by omega, by omega, g.1, g.2⟩, fun _ => rfl⟩
    · rename_i g
      constructor
      · intro e; cases e
      · rintro ⟨_, _, g1, g2⟩
        rw [g1, g2] at g
        exact absurd rfl g
theorem numR_two (l : List UInt8) : numR ([50, 59] ++ l) = some (2, l) := by
  unfold numR
  rw [show ([50, 59] ++ l : List UInt8) = [50] ++ 59 :: l from rfl, bef_app 59 [50] l (by decide)]
  simp only
  rw [if_pos (by decide)]
  rfl
theorem numR_eight (l : List UInt8) : numR (56 :: 59 :: l) = some (8, l) := by
  unfold numR
  rw [show (56 :: 59 :: l : List UInt8) = [56] ++ 59 :: l from rfl, bef_app 59 [56] l (by decide)]
  simp only
  rw [if_pos (by decide)]
  rfl
/-- The text of a command says the command. -/
theorem textT_ok {k : Int} {id text : List UInt8} (h : cmdOk k id text) : parseT (cmdText k id text) = (k, id, text, 0) := by
  rcases h with ⟨rfl, rfl, h⟩ | ⟨rfl, h1, h2⟩ | ⟨rfl, rfl, rfl⟩
  · unfold parseT cmdText
    rw [if_pos rfl, numR_two]
    simp only [restT]
    rw [if_pos (by simp), h]
  · obtain ⟨_, _, _, g2⟩ := linkErr_ok.1 h2
    by_cases hi : id = []
    · subst hi
      unfold parseT cmdText
      rw [if_neg (by decide), if_neg (by simp), show ([56, 59, 59] ++ text : List UInt8) = 56 :: 59 :: ([] ++ 59 :: text) from rfl, numR_eight]
      simp only [restT]
      rw [if_neg (by decide), if_neg (by decide), bef_app 59 [] text (by simp)]
      simp only
      rw [if_neg h1, show idOf (pieces 58 []) = [] from rfl, if_pos h2]
    · have n8 := gr_not (b := 58) g2 (by decide)
      have n9 := gr_not (b := 59) g2 (by decide)
      have m8 : (58 : UInt8) ∉ ([105, 100, 61] ++ id : List UInt8) := by
        rw [List.mem_append, not_or]
        exact ⟨by decide, n8⟩
      have m9 : (59 : UInt8) ∉ ([105, 100, 61] ++ id : List UInt8) := by
        rw [List.mem_append, not_or]
        exact ⟨by decide, n9⟩
      have hid : idOf (pieces 58 ([105, 100, 61] ++ id)) = id := by
        rw [pieces_no 58 _ m8, idOf, if_pos (by simp [Lib.hasPrefix])]
        rfl
      unfold parseT cmdText
      rw [if_neg (by decide), if_pos hi, show ([56, 59, 105, 100, 61] ++ id ++ [59] ++ text : List UInt8) = 56 :: 59 :: (([105, 100, 61] ++ id) ++ 59 :: text) from by simp, numR_eight]
      simp only [restT]
      rw [if_neg (by decide), if_neg (by decide), bef_app 59 _ text m9]
      simp only
      rw [if_neg h1, hid, if_pos h2]
  · rfl
/-- What is said: a command, or nothing and an error. -/
theorem said_ok (l : List UInt8) : (∃ k id text, parseT l = (k, id, text, 0) ∧ cmdOk k id text) ∨ ∃ e, e ≠ 0 ∧ parseT l = (0, [], [], e) := by
  unfold parseT
  cases numR l with
  | none => exact .inr ⟨6, by decide, rfl⟩
  | some p =>
    obtain ⟨n, rest⟩ := p
    simp only
    unfold restT
    split
    · exact .inl ⟨_, _, _, rfl, .inl ⟨rfl, rfl, cleanT_again _⟩⟩
    · split
      · exact .inr ⟨9, by decide, rfl⟩
      · split
        · exact .inr ⟨6, by decide, rfl⟩
        · split
          · exact .inl ⟨_, _, _, rfl, .inr (.inr ⟨rfl, rfl, rfl⟩)⟩
          · rename_i ht
            split
            · rename_i he
              exact .inl ⟨_, _, _, rfl, .inr (.inl ⟨rfl, ht, he⟩)⟩
            · rename_i he
              exact .inr ⟨_, he, rfl⟩
theorem cmdOk_len {k : Int} {id text : List UInt8} (h : cmdOk k id text) : id.length ≤ 64 ∧ text.length ≤ 512 := by
  rcases h with ⟨rfl, rfl, h⟩ | ⟨rfl, h1, h2⟩ | ⟨rfl, rfl, rfl⟩
  · have := cleanT_len text
    rw [h] at this
    exact ⟨by simp, by omega⟩
  · obtain ⟨a, b, _, _⟩ := linkErr_ok.1 h2
    exact ⟨b, a⟩
  · exact ⟨by simp, by simp⟩
theorem cmdText_len {k : Int} {id text : List UInt8} (h : cmdOk k id text) : (cmdText k id text).length ≤ 1000 := by
  obtain ⟨h1, h2⟩ := cmdOk_len h
  unfold cmdText
  split
  · simp; omega
  · split
    · simp; omega
    · simp; omega
/-- The same for byte strings. -/
theorem text_ok {k : Int} {id text : ByteArray} (h : cmdOk k id.data.toList text.data.toList) : ∃ X : ByteArray, X.size ≤ 1000 ∧ textV k id text = .tuple #[.string X, .int .i64 0] ∧ parseT X.data.toList = (k, id.data.toList, text.data.toList, 0) ∧ X.data.toList = cmdText k id.data.toList text.data.toList := by
  refine ⟨⟨(cmdText k id.data.toList text.data.toList).toArray⟩, ?_, ?_, textT_ok h, rfl⟩
  · rw [Lib.size_eq]
    exact cmdText_len h
  · unfold textV
    rw [if_pos h]
theorem parse_ok (s : ByteArray) : (∃ (k : Int) (id text : ByteArray), parseT s.data.toList = (k, id.data.toList, text.data.toList, 0) ∧ cmdOk k id.data.toList text.data.toList ∧ id.size ≤ 1000 ∧ text.size ≤ 1000) ∨ ∃ e : Int, e ≠ 0 ∧ parseT s.data.toList = (0, [], [], e) := by
  rcases said_ok s.data.toList with ⟨k, id, text, h, hc⟩ | h
  · have hl := cmdOk_len hc
    exact .inl ⟨k, ⟨id.toArray⟩, ⟨text.toArray⟩, h, hc, by rw [Lib.size_eq]; simp; omega, by rw [Lib.size_eq]; simp; omega⟩
  · exact .inr h
theorem parse_named (s : ByteArray) : ∃ (q : Int) (I T : ByteArray) (er : Int), parseT s.data.toList = (q, I.data.toList, T.data.toList, er) :=
  ⟨(parseT s.data.toList).1, ⟨(parseT s.data.toList).2.1.toArray⟩, ⟨(parseT s.data.toList).2.2.1.toArray⟩, (parseT s.data.toList).2.2.2, rfl⟩
theorem seen_row {w W : World} (hs : Sees w W) {b : Nat} {o : Obj} (h : w.heap[b]? = some o) : W.heap[b]? = some o := by
  rw [hs.block b (Array.getElem?_eq_some_iff.1 h).1, h]
theorem rparse_at (s : ByteArray) (k : Int) (I T : ByteArray) (er : Int) (hs : s.size ≤ 1000000) (h : parseT s.data.toList = (k, I.data.toList, T.data.toList, er)) (W : World) :
    Calls Tryd.prog 12 #[.string s] W fun e w' => e = .returned (.tuple #[cmd k I T, .int .i64 er]) ∧ Sees W w' := by
  have hc := rparse_any s hs W
  rw [h] at hc
  exact hc
end Go.Proofs.YtmmofcfhenjffaaDoor
