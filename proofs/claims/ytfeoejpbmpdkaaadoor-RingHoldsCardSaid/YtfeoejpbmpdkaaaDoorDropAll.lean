/- Taking all lines away. No condition. -/
import Derived.Test.YtfeoejpbmpdkaaaDoorDrop
namespace Go.Proofs.YtfeoejpbmpdkaaaDoor
set_option linter.unusedVariables false
set_option linter.unusedSimpArgs false
open Go.RowKit

set_option maxRecDepth 100000 in
set_option maxHeartbeats 1000000 in
theorem drop_all (F : Nat → Prop) (p : Nat) (most gone : Int) (ls : List Ln) (w : World) (h : Page F w p most gone ls) (hm : 0 < most ∧ most ≤ 1024 ∧ 0 ≤ gone ∧ gone ≤ 1024) (hn : ls.length ≤ 1024) :
    Calls Tryd.prog 16 #[.pointer (some ⟨p, 0, none⟩), .int .i64 ls.length] w fun e w' => e = .returned (.int .i64 0) ∧ Page F w' p most (gone + ls.length) [] ∧ Keeps F w w' := by
  obtain ⟨Fp, sv, hp, hown⟩ := h
  have hcap : ∃ a c, sv = .slice a ls.length c ∧ ls.length ≤ c := by
    obtain ⟨xs, ⟨_, h⟩, _⟩ := hown
    rcases h with ⟨rfl, h⟩ | ⟨g, cap, cur, rfl, _, _, h, _⟩
    · exact ⟨none, 0, by rw [h], by omega⟩
    · exact ⟨_, _, rfl, h⟩
  obtain ⟨a, c, rfl, hcap⟩ := hcap
  have H := Lib.hid hp
  have HF := Lib.hid Fp
  have Hm := Lib.hid hm
  clear hp hown Fp hm
  generalize ls.length = n at *
  have h1 : decide ((n : Int) < 0) = false := decide_eq_false (by omega)
  have h2 : decide ((n : Int) > (n : Int)) = false := decide_eq_false (by omega)
  have hw1 : 0 ≤ gone := Hm.out.2.2.1
  have hw2 : gone ≤ 1024 := Hm.out.2.2.2
  rcases a with _ | ⟨g, o, q⟩
  all_goals
    go_enter Tryd.func16, Tryd.ntmps16
    go_wp2_with fail
    refine (zero_at _ p _ _ _ H.out Hm.out.1).mono ?_
    rintro e w1 ⟨rfl, hs⟩
    have Hp1 := Lib.hid (H.out.sees hs)
    have d1 := (H.out.sees hs).c1
    have d2 := (H.out.sees hs).c2
    have fr := (H.out.sees hs).fr
    have Hs := Lib.hid hs; clear hs
    go_wp2
    all_goals
      go_ret
      refine ⟨rfl, ⟨HF.out, .slice none 0 0, ?_, OwnL.nil _ _⟩, ((Keeps.of_sees Hs.out).setCell (p := ⟨p, 2, none⟩) (fun _ => HF.out) _).setCell (p := ⟨p, 1, none⟩) (fun _ => HF.out) _⟩
      unfold PgAt
      rw [heap_setCell_same _ _ _ _ _ _ (heap_setCell_same _ _ _ _ _ _ Hp1.out)]
      rfl
end Go.Proofs.YtfeoejpbmpdkaaaDoor
