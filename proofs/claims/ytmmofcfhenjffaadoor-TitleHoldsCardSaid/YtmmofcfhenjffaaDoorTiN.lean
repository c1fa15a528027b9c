/- title.number and title.linked (26). No condition. -/
import Derived.Test.YtmmofcfhenjffaaDoorTiG
import Derived.OwnWalk
namespace Go.Proofs.YtmmofcfhenjffaaDoor
set_option linter.unusedVariables false
set_option linter.unusedSimpArgs false
open Go.RowKit

/-- The error of a link. -/
def linkErr (id text : List UInt8) : Int := if 512 < text.length ∨ 64 < id.length then 5 else if gr [] text && gr [58, 59] id then 0 else 6
abbrev cmd (k : Int) (id text : ByteArray) : Value := .agg #[.int .i64 k, .string id, .string text]
/-- A variable that holds a command. -/
def CmdAt (W : World) (b : Nat) (k : Int) (id text : ByteArray) : Prop := W.heap[b]? = some (.cells #[.int .i64 k, .string id, .string text] 30 (0, 0))
namespace CmdAt
variable {W W' : World} {b : Nat} {k : Int} {id text : ByteArray}
theorem lt (h : CmdAt W b k id text) : b < W.heap.size := (Array.getElem?_eq_some_iff.1 h).1
theorem sees (h : CmdAt W b k id text) (hs : Sees W W') : CmdAt W' b k id text := by
  unfold CmdAt; rw [hs.block _ h.lt]; exact h
theorem new (W : World) (k : Int) (id text : ByteArray) : CmdAt (W.alloc (.cells #[.int .i64 k, .string id, .string text] 30)) W.heap.size k id text := heap_alloc_new W _
theorem cs (h : CmdAt W b k id text) : W.cell? ⟨b, 0, none⟩ = some (.int .i64 k) ∧ W.cell? ⟨b, 1, none⟩ = some (.string id) ∧ W.cell? ⟨b, 2, none⟩ = some (.string text) := by
  rw [cell_of_row _ _ _ _ _ _ h, cell_of_row _ _ _ _ _ _ h, cell_of_row _ _ _ _ _ _ h]; exact ⟨rfl, rfl, rfl⟩
theorem fr (h : CmdAt W b k id text) : W.frozen? ⟨b, 0, none⟩ = false ∧ W.frozen? ⟨b, 1, none⟩ = false ∧ W.frozen? ⟨b, 2, none⟩ = false := ⟨frozen_of_row W b 0 _ _ h, frozen_of_row W b 1 _ _ h, frozen_of_row W b 2 _ _ h⟩
end CmdAt
set_option maxHeartbeats 4000000 in
set_option maxRecDepth 100000 in
theorem linked_any (k : Int) (id text : ByteArray) (h1 : id.size ≤ 281474976710656) (h2 : text.size ≤ 281474976710656) (w : World) :
    Calls Tryd.prog 32 #[cmd k id text] w fun e w' => e = .returned (.int .i64 (linkErr id.data.toList text.data.toList)) ∧ Sees w w' := by
  have hE : linkErr id.data.toList text.data.toList = if decide ((text.size : Int) > 512) || decide ((id.size : Int) > 64) then 5 else if gr [] text.data.toList && gr [58, 59] id.data.toList then 0 else 6 := by
    unfold linkErr
    rw [Lib.size_eq, Lib.size_eq]
    by_cases c : 512 < text.data.toList.length ∨ 64 < id.data.toList.length
    · have e : (decide ((text.data.toList.length : Int) > 512) || decide ((id.data.toList.length : Int) > 64)) = true := by
        rw [Bool.or_eq_true, decide_eq_true_eq, decide_eq_true_eq]; omega
      rw [if_pos c, e]
      rfl
    · have e : (decide ((text.data.toList.length : Int) > 512) || decide ((id.data.toList.length : Int) > 64)) = false := by
        rw [Bool.or_eq_false_iff, decide_eq_false_iff_not, decide_eq_false_iff_not]; omega
      rw [if_neg c, e]
      rfl
  replace hE := Lib.hid hE
  have hg1 := graphic_text text h2
  have hg2 := graphic_id id h1
  have hr := Sees.refl w
  go_enter Tryd.func32, Tryd.ntmps32
  rcases Bool.eq_false_or_eq_true (decide ((text.size : Int) > 512)) with c1 | c1 <;> rcases Bool.eq_false_or_eq_true (decide ((id.size : Int) > 64)) with c2 | c2
  case inr.inr =>
    rcases Bool.eq_false_or_eq_true (gr [] text.data.toList) with c3 | c3 <;> rcases Bool.eq_false_or_eq_true (gr [58, 59] id.data.toList) with c4 | c4
    all_goals
      rw [c3] at hg1
      rw [c4] at hg2
      go_wp2_with (first | (go_at_call 41; refine (hg1 _).mono ?_))
      rintro e W1 ⟨rfl, s1⟩
      obtain ⟨q0, q1, q2⟩ := ((CmdAt.new w k id text).sees s1).cs
      go_wp2_with (first | (go_at_call 41; refine (hg2 _).mono ?_))
      try
        rintro e W2 ⟨rfl, s2⟩
        go_wp2
      go_ret
      refine ⟨?_, ?_⟩
      · rw [hE.out, c1, c2, c3, c4]
        rfl
      · first
          | exact ((hr.alloc _).trans s1).trans s2
          | exact (hr.alloc _).trans s1
  all_goals
    go_wp2
    go_ret
    refine ⟨?_, hr.alloc _⟩
    rw [hE.out, c1, c2]
    rfl

/-- What number gives: the number (or -1), what is behind it, whether there is one. -/
def numR (l : List UInt8) : Option (Nat × List UInt8) := match bef 59 l with
  | none => none
  | some p => if p.1 ≠ [] ∧ (∀ c ∈ p.1, isDig c = true) then some (numb p.1, p.2) else none
/-- The number in the machine's words: too great ones are -1. -/
def NumV (n : Nat) (v : Int) : Prop := v = (n : Int) ∨ (v = -1 ∧ 1000 < n)
set_option maxHeartbeats 4000000 in
set_option maxRecDepth 100000 in
theorem number_any (s : ByteArray) (hs : s.size < 4294967281) (w : World) (hw : Std w) :
    Calls Tryd.prog 33 #[.string s] w fun e w' => (match numR s.data.toList with
      | none => e = .returned (.tuple #[.int .i64 0, .string ⟨#[]⟩, .bool false])
      | some p => ∃ v, NumV p.1 v ∧ e = .returned (.tuple #[.int .i64 v, .string ⟨p.2.toArray⟩, .bool true])) ∧ Sees w w' := by
  have hc := cut_any s hs 59 w hw
  rw [cut_bef] at hc
  unfold numR
  cases hb : bef 59 s.data.toList with
  | none =>
    rw [hb] at hc
    simp only at hc ⊢
    go_enter Tryd.func33, Tryd.ntmps33
    go_wp2_with (go_at_call 34; refine hc.mono ?_)
    rintro e W1 ⟨rfl, s1⟩
    go_wp2
    go_ret3
    exact ⟨rfl, s1⟩
  | some p =>
    rw [hb] at hc
    obtain ⟨h, t⟩ := p
    simp only at hc ⊢
    obtain ⟨el, hn⟩ := bef_some hb
    have hlen : h.length < 4294967281 := by
      have := congrArg List.length el
      rw [List.length_append, ← Lib.size_eq] at this
      omega
    obtain ⟨H, hH⟩ : ∃ H : ByteArray, H = ⟨h.toArray⟩ := ⟨_, rfl⟩
    have hHd : H.data.toList = h := by rw [hH]
    have hHl : H.toList = h := by rw [Lib.toList_data, hHd]
    have hHs : H.size = h.length := by rw [Lib.size_eq, hHd]
    rw [← hH] at hc
    obtain ⟨T, hT⟩ : ∃ T : ByteArray, T = ⟨(Lib.trimS h [48, 49, 50, 51, 52, 53, 54, 55, 56, 57]).toArray⟩ := ⟨_, rfl⟩
    have hTl : T.toList = Lib.trimS h [48, 49, 50, 51, 52, 53, 54, 55, 56, 57] := by rw [Lib.toList_data, hT]
    have ht : ∀ W, Calls Tryd.prog 42 #[.string H, .string ⟨#[48, 49, 50, 51, 52, 53, 54, 55, 56, 57]⟩] W fun e w' => e = .returned (.string T) ∧ Sees W w' := fun W => by
      have q := trim_any H (by omega) W
      rw [hHd, ← hT] at q
      exact q
    have htd := trim_digits h
    rw [← hTl] at htd
    by_cases hne : h = []
    · rw [if_neg (by simp [hne])]
      have f1 : H.toList.isEmpty = true := by rw [hHl, hne]; rfl
      clear hHd hHl hHs hTl htd hT hH
      simp only
      go_enter Tryd.func33, Tryd.ntmps33
      go_wp2_with (go_at_call 34; refine hc.mono ?_)
      rintro e W1 ⟨rfl, s1⟩
      go_wp2
      go_ret3
      exact ⟨rfl, s1⟩
    · have f1 : H.toList.isEmpty = false := by rw [hHl]; cases h with | nil => exact absurd rfl hne | cons _ _ => rfl
      by_cases hd : ∀ c ∈ h, isDig c = true
      · rw [if_pos ⟨hne, hd⟩]
        obtain ⟨hn1, hn2⟩ := atoi_digits hne hd
        have f2 : T.toList.isEmpty = true := by rw [htd.2 hd]; rfl
        have hat : ∀ W, Std W → Calls Tryd.prog 43 #[.string H] W fun e w' => ∃ v ev, e = .returned (.tuple #[.int .i64 v, ev]) ∧ IsAtoi H v ev ∧ (-9223372036854775808 ≤ v ∧ v ≤ 9223372036854775807) ∧ Sees W w' := fun W hW => atoi_any H (by omega) W hW
        unfold IsAtoi at hat
        rw [hHd] at hat
        clear hHd hHl hHs hTl htd hT hH
        simp only
        go_enter Tryd.func33, Tryd.ntmps33
        go_wp2_with (go_at_call 34; refine hc.mono ?_)
        rintro e W1 ⟨rfl, s1⟩
        go_wp2_with (go_at_call 42; refine (ht _).mono ?_)
        rintro e W2 ⟨rfl, s2⟩
        go_wp2_with (go_at_call 43; refine (hat _ (hw.sees (s1.trans s2))).mono ?_)
        rintro e W3 ⟨v, ev, rfl, hI, hv, s3⟩
        rcases hI with ⟨e1, rfl⟩ | ⟨e1, t1, p1, rfl⟩
        · go_wp2
          go_ret3
          exact ⟨⟨(numb h : Int), .inl rfl, rfl⟩, (s1.trans s2).trans s3⟩
        · go_wp2
          go_ret3
          exact ⟨⟨-1, .inr ⟨rfl, hn2 e1⟩, rfl⟩, (s1.trans s2).trans s3⟩
      · rw [if_neg (fun q => hd q.2)]
        have f2 : T.toList.isEmpty = false := by
          cases hq : T.toList with
          | nil => exact absurd (htd.1 hq) hd
          | cons _ _ => rfl
        clear hHd hHl hHs hTl htd hT hH
        simp only
        go_enter Tryd.func33, Tryd.ntmps33
        go_wp2_with (go_at_call 34; refine hc.mono ?_)
        rintro e W1 ⟨rfl, s1⟩
        go_wp2_with (go_at_call 42; refine (ht _).mono ?_)
        rintro e W2 ⟨rfl, s2⟩
        go_wp2
        go_ret3
        exact ⟨rfl, s1.trans s2⟩
end Go.Proofs.YtmmofcfhenjffaaDoor
