/- title.Text, and the reference's Is and Text (26). No condition. -/
import Derived.Test.YtmmofcfhenjffaaDoorTiX
import Derived.Test.YtmmofcfhenjffaaDoorTiE
namespace Go.Proofs.YtmmofcfhenjffaaDoor
set_option linter.unusedVariables false
set_option linter.unusedSimpArgs false
open Go.RowKit

/-- There is such a command. -/
def cmdOk (k : Int) (id text : List UInt8) : Prop :=
  (k = 1 ∧ id = [] ∧ cleanT text = text) ∨ (k = 2 ∧ text ≠ [] ∧ linkErr id text = 0) ∨ (k = 3 ∧ id = [] ∧ text = [])
instance cmdOkD (k : Int) (id text : List UInt8) : Decidable (cmdOk k id text) := by unfold cmdOk; infer_instance
/-- The text of a command. -/
def cmdText (k : Int) (id text : List UInt8) : List UInt8 :=
  if k = 1 then [50, 59] ++ text else if id ≠ [] then [56, 59, 105, 100, 61] ++ id ++ [59] ++ text else [56, 59, 59] ++ text
def textV (k : Int) (id text : ByteArray) : Value :=
  if cmdOk k id.data.toList text.data.toList then .tuple #[.string ⟨(cmdText k id.data.toList text.data.toList).toArray⟩, .int .i64 0] else .tuple #[.string ⟨#[]⟩, .int .i64 2]
theorem ba_nil (s : ByteArray) : s.toList.isEmpty = true ↔ s.data.toList = [] := by
  rw [Lib.toList_data, List.isEmpty_iff]
theorem ba_mk (s : ByteArray) : (⟨s.data.toList.toArray⟩ : ByteArray) = s := by
  apply ByteArray.ext
  rfl
set_option maxHeartbeats 4000000 in
set_option maxRecDepth 100000 in
theorem ttext_any (k : Int) (id text : ByteArray) (h1 : id.size ≤ 1000000) (h2 : text.size ≤ 1000000) (w : World) (hw : Std w) :
    Calls Tryd.prog 19 #[cmd k id text] w fun e w' => e = .returned (textV k id text) ∧ Sees w w' := by
  have hcl := fun W => clean_any text (by omega) W
  have hlk := fun W => linked_any k id text (by omega) (by omega) W
  have hi2 := fun W hW => itoa_any 2 (by omega) W hW
  have hi8 := fun W hW => itoa_any 8 (by omega) W hW
  rw [show (⟨(Lib.itoa 2).toArray⟩ : ByteArray) = ⟨#[50]⟩ from by decide +kernel] at hi2
  rw [show (⟨(Lib.itoa 8).toArray⟩ : ByteArray) = ⟨#[56]⟩ from by decide +kernel] at hi8
  obtain ⟨C, hC⟩ : ∃ C : ByteArray, C = ⟨(cleanT text.data.toList).toArray⟩ := ⟨_, rfl⟩
  rw [← hC] at hcl
  have hr := Sees.refl w
  have A0 := CmdAt.new w k id text
  obtain ⟨q0, q1, q2⟩ := A0.cs
  have HA := Lib.hid A0
  clear A0
  go_enter Tryd.func19, Tryd.ntmps19
  replace hC := Lib.hid hC
  rcases Bool.eq_false_or_eq_true (k == 1) with c1 | c1
  · have hk1 : RowKit.Hid (k = 1) := Lib.hid (by simpa using c1)
    rcases Bool.eq_false_or_eq_true (id.toList.isEmpty) with c2 | c2
    · have hid0 : RowKit.Hid (id.data.toList = []) := Lib.hid ((ba_nil id).1 c2)
      rcases Bool.eq_false_or_eq_true (C.toList == text.toList) with c3 | c3
      · have hct : RowKit.Hid (cleanT text.data.toList = text.data.toList) := Lib.hid (by
          have := beq_iff_eq.1 c3
          rw [Lib.toList_data, Lib.toList_data, hC.out] at this
          exact this)
        have hV : RowKit.Hid (textV k id text = .tuple #[.string (⟨#[50, 59]⟩ ++ text), .int .i64 0]) := Lib.hid (by
          unfold textV cmdText
          rw [if_pos (.inl ⟨hk1.out, hid0.out, hct.out⟩), if_pos hk1.out]
          congr 1)
        go_wp2_with fail
        refine wp_region_sees (by kernel_rfl) (by kernel_rfl) ?_
        refine wpQuiet_val (fun K hK => ⟨?_, ?_⟩); (focus (go_simp; done)); apply Exists.intro; refine ⟨fun W hW => ?_, ?_⟩; (focus (obtain ⟨q0, q1, q2⟩ := (HA.out.sees hW).cs; go_simp; first | done | rfl)); go_simp; refine hK _ ?_; clear hK K
        refine wpQuiet_val (fun K hK => ⟨?_, ?_⟩); (focus (go_simp; done)); apply Exists.intro; refine ⟨fun W hW => ?_, ?_⟩; (focus (obtain ⟨q0, q1, q2⟩ := (HA.out.sees hW).cs; go_simp; first | done | rfl)); go_simp; refine hK _ ?_; clear hK K
        refine wpQuiet_val (fun K hK => ⟨?_, ?_⟩); (focus (go_simp; done)); apply Exists.intro; refine ⟨fun W hW => ?_, ?_⟩; (focus ( go_simp; first | done | rfl)); go_simp; refine hK _ ?_; clear hK K
        refine wpQuiet_val (fun K hK => ⟨?_, ?_⟩); (focus (go_simp; done)); apply Exists.intro; refine ⟨fun W hW => ?_, ?_⟩; (focus ( go_simp; first | done | rfl)); go_simp; refine hK _ ?_; clear hK K
        refine wpQuiet_val (fun K hK => ⟨?_, ?_⟩); (focus (go_simp; done)); apply Exists.intro; refine ⟨fun W hW => ?_, ?_⟩; (focus ( go_simp; first | done | rfl)); go_simp; refine hK _ ?_; clear hK K
        refine wpQuiet_val (fun K hK => ⟨?_, ?_⟩); (focus (go_simp; done)); apply Exists.intro; refine ⟨fun W hW => ?_, ?_⟩; (focus (obtain ⟨q0, q1, q2⟩ := (HA.out.sees hW).cs; go_simp; first | done | rfl)); go_simp; refine hK _ ?_; clear hK K
        refine wpQuiet_enter 10 #[.string text] (fun K hK => ⟨?_, fun W hW => ?_, ?_⟩); (focus (go_simp; done)); (focus ( go_simp; done)); apply Exists.intro; refine ⟨fun W hW => (hcl W).mono fun e w'' ⟨he, hb⟩ => ⟨he, hW.trans hb⟩, ?_⟩; go_simp; refine hK _ ?_; clear hK K
        refine wpQuiet_val (fun K hK => ⟨?_, ?_⟩); (focus (go_simp; done)); apply Exists.intro; refine ⟨fun W hW => ?_, ?_⟩; (focus ( go_simp; first | done | rfl)); go_simp; refine hK _ ?_; clear hK K
        refine wpQuiet_val (fun K hK => ⟨?_, ?_⟩); (focus (go_simp; done)); apply Exists.intro; refine ⟨fun W hW => ?_, ?_⟩; (focus (obtain ⟨q0, q1, q2⟩ := (HA.out.sees hW).cs; go_simp; first | done | rfl)); go_simp; refine hK _ ?_; clear hK K
        refine wpQuiet_val (fun K hK => ⟨?_, ?_⟩); (focus (go_simp; done)); apply Exists.intro; refine ⟨fun W hW => ?_, ?_⟩; (focus ( go_simp; first | done | rfl)); go_simp; refine hK _ ?_; clear hK K
        refine wpQuiet_val (fun K hK => ⟨?_, ?_⟩); (focus (go_simp; done)); apply Exists.intro; refine ⟨fun W hW => ?_, ?_⟩; (focus ( go_simp; first | done | rfl)); go_simp; refine hK _ ?_; clear hK K
        refine wpQuiet_nil ?_; intro w2 hw2
        have HA2 := Lib.hid (HA.out.sees hw2)
        have hs2 := Lib.hid ((hr.alloc (.cells #[.int .i64 k, .string id, .string text] 30)).trans hw2)
        have hS2 := hw.sees hs2.out
        clear hw2
        have z1 : ¬ (9223372036854775807 < 2 + text.size) := by omega
        go_wp2_with fail
        refine wp_region_sees (by kernel_rfl) (by kernel_rfl) ?_
        refine wpQuiet_enter 31 #[.int .i64 2] (fun K hK => ⟨?_, fun W hW => ?_, ?_⟩); (focus (go_simp; done)); (focus ( go_simp; done)); apply Exists.intro; refine ⟨fun W hW => (hi2 W (hS2.sees hW)).mono fun e w'' ⟨he, hb⟩ => ⟨he, hW.trans hb⟩, ?_⟩; go_simp; refine hK _ ?_; clear hK K
        refine wpQuiet_val (fun K hK => ⟨?_, ?_⟩); (focus (go_simp; done)); apply Exists.intro; refine ⟨fun W hW => ?_, ?_⟩; (focus ( go_simp; first | done | rfl)); go_simp; refine hK _ ?_; clear hK K
        refine wpQuiet_val (fun K hK => ⟨?_, ?_⟩); (focus (go_simp; done)); apply Exists.intro; refine ⟨fun W hW => ?_, ?_⟩; (focus ( go_simp; first | done | rfl)); go_simp; refine hK _ ?_; clear hK K
        refine wpQuiet_val (fun K hK => ⟨?_, ?_⟩); (focus (go_simp; done)); apply Exists.intro; refine ⟨fun W hW => ?_, ?_⟩; (focus (obtain ⟨q0, q1, q2⟩ := (HA2.out.sees hW).cs; go_simp; first | done | rfl)); go_simp; refine hK _ ?_; clear hK K
        refine wpQuiet_val (fun K hK => ⟨?_, ?_⟩); (focus (go_simp; done)); apply Exists.intro; refine ⟨fun W hW => ?_, ?_⟩; (focus ( go_simp; first | done | rfl)); go_simp; refine hK _ ?_; clear hK K
        refine wpQuiet_val (fun K hK => ⟨?_, ?_⟩); (focus (go_simp; done)); apply Exists.intro; refine ⟨fun W hW => ?_, ?_⟩; (focus ( go_simp; first | done | rfl)); go_simp; refine hK _ ?_; clear hK K
        refine wpQuiet_val (fun K hK => ⟨?_, ?_⟩); (focus (go_simp; done)); apply Exists.intro; refine ⟨fun W hW => ?_, ?_⟩; (focus ( go_simp; first | done | rfl)); go_simp; refine hK _ ?_; clear hK K
        refine wpQuiet_nil ?_; intro w2 hw2
        go_wp2
        go_ret2
        exact ⟨by rw [hV.out]; rfl, hs2.out.trans hw2⟩
      · have hct : RowKit.Hid (cleanT text.data.toList ≠ text.data.toList) := Lib.hid (fun h => by
          have := beq_eq_false_iff_ne.1 c3
          rw [Lib.toList_data, Lib.toList_data, hC.out] at this
          exact this h)
        have hV : RowKit.Hid (textV k id text = .tuple #[.string ⟨#[]⟩, .int .i64 2]) := Lib.hid (by
          unfold textV
          rw [if_neg (fun h => by
            rcases h with ⟨h1, h2, h3⟩ | ⟨h1, h2, h3⟩ | ⟨h1, h2, h3⟩
            all_goals first | exact hct.out h3 | (have := hk1.out; omega))])
        go_wp2_with fail
        refine wp_region_sees (by kernel_rfl) (by kernel_rfl) ?_
        refine wpQuiet_val (fun K hK => ⟨?_, ?_⟩); (focus (go_simp; done)); apply Exists.intro; refine ⟨fun W hW => ?_, ?_⟩; (focus (obtain ⟨q0, q1, q2⟩ := (HA.out.sees hW).cs; go_simp; first | done | rfl)); go_simp; refine hK _ ?_; clear hK K
        refine wpQuiet_val (fun K hK => ⟨?_, ?_⟩); (focus (go_simp; done)); apply Exists.intro; refine ⟨fun W hW => ?_, ?_⟩; (focus (obtain ⟨q0, q1, q2⟩ := (HA.out.sees hW).cs; go_simp; first | done | rfl)); go_simp; refine hK _ ?_; clear hK K
        refine wpQuiet_val (fun K hK => ⟨?_, ?_⟩); (focus (go_simp; done)); apply Exists.intro; refine ⟨fun W hW => ?_, ?_⟩; (focus ( go_simp; first | done | rfl)); go_simp; refine hK _ ?_; clear hK K
        refine wpQuiet_val (fun K hK => ⟨?_, ?_⟩); (focus (go_simp; done)); apply Exists.intro; refine ⟨fun W hW => ?_, ?_⟩; (focus ( go_simp; first | done | rfl)); go_simp; refine hK _ ?_; clear hK K
        refine wpQuiet_val (fun K hK => ⟨?_, ?_⟩); (focus (go_simp; done)); apply Exists.intro; refine ⟨fun W hW => ?_, ?_⟩; (focus ( go_simp; first | done | rfl)); go_simp; refine hK _ ?_; clear hK K
        refine wpQuiet_val (fun K hK => ⟨?_, ?_⟩); (focus (go_simp; done)); apply Exists.intro; refine ⟨fun W hW => ?_, ?_⟩; (focus (obtain ⟨q0, q1, q2⟩ := (HA.out.sees hW).cs; go_simp; first | done | rfl)); go_simp; refine hK _ ?_; clear hK K
        refine wpQuiet_enter 10 #[.string text] (fun K hK => ⟨?_, fun W hW => ?_, ?_⟩); (focus (go_simp; done)); (focus ( go_simp; done)); apply Exists.intro; refine ⟨fun W hW => (hcl W).mono fun e w'' ⟨he, hb⟩ => ⟨he, hW.trans hb⟩, ?_⟩; go_simp; refine hK _ ?_; clear hK K
        refine wpQuiet_val (fun K hK => ⟨?_, ?_⟩); (focus (go_simp; done)); apply Exists.intro; refine ⟨fun W hW => ?_, ?_⟩; (focus ( go_simp; first | done | rfl)); go_simp; refine hK _ ?_; clear hK K
        refine wpQuiet_val (fun K hK => ⟨?_, ?_⟩); (focus (go_simp; done)); apply Exists.intro; refine ⟨fun W hW => ?_, ?_⟩; (focus (obtain ⟨q0, q1, q2⟩ := (HA.out.sees hW).cs; go_simp; first | done | rfl)); go_simp; refine hK _ ?_; clear hK K
        refine wpQuiet_val (fun K hK => ⟨?_, ?_⟩); (focus (go_simp; done)); apply Exists.intro; refine ⟨fun W hW => ?_, ?_⟩; (focus ( go_simp; first | done | rfl)); go_simp; refine hK _ ?_; clear hK K
        refine wpQuiet_val (fun K hK => ⟨?_, ?_⟩); (focus (go_simp; done)); apply Exists.intro; refine ⟨fun W hW => ?_, ?_⟩; (focus ( go_simp; first | done | rfl)); go_simp; refine hK _ ?_; clear hK K
        refine wpQuiet_nil ?_; intro w2 hw2
        go_wp2
        go_ret2
        exact ⟨by rw [hV.out]; rfl, (hr.alloc _).trans hw2⟩
    · have hid0 : RowKit.Hid (id.data.toList ≠ []) := Lib.hid (fun h => by rw [(ba_nil id).2 h] at c2; cases c2)
      have hV : RowKit.Hid (textV k id text = .tuple #[.string ⟨#[]⟩, .int .i64 2]) := Lib.hid (by
        unfold textV
        rw [if_neg (fun h => by
          rcases h with ⟨h1, h2, h3⟩ | ⟨h1, h2, h3⟩ | ⟨h1, h2, h3⟩
          all_goals first | exact hid0.out h2 | (have := hk1.out; omega))])
      go_wp2_with fail
      refine wp_region_sees (by kernel_rfl) (by kernel_rfl) ?_
      refine wpQuiet_val (fun K hK => ⟨?_, ?_⟩); (focus (go_simp; done)); apply Exists.intro; refine ⟨fun W hW => ?_, ?_⟩; (focus (obtain ⟨q0, q1, q2⟩ := (HA.out.sees hW).cs; go_simp; first | done | rfl)); go_simp; refine hK _ ?_; clear hK K
      refine wpQuiet_val (fun K hK => ⟨?_, ?_⟩); (focus (go_simp; done)); apply Exists.intro; refine ⟨fun W hW => ?_, ?_⟩; (focus (obtain ⟨q0, q1, q2⟩ := (HA.out.sees hW).cs; go_simp; first | done | rfl)); go_simp; refine hK _ ?_; clear hK K
      refine wpQuiet_val (fun K hK => ⟨?_, ?_⟩); (focus (go_simp; done)); apply Exists.intro; refine ⟨fun W hW => ?_, ?_⟩; (focus ( go_simp; first | done | rfl)); go_simp; refine hK _ ?_; clear hK K
      refine wpQuiet_val (fun K hK => ⟨?_, ?_⟩); (focus (go_simp; done)); apply Exists.intro; refine ⟨fun W hW => ?_, ?_⟩; (focus ( go_simp; first | done | rfl)); go_simp; refine hK _ ?_; clear hK K
      refine wpQuiet_off (fun K hK => ⟨?_, ?_⟩); (focus (go_simp; done)); go_simp; refine hK _ ?_; clear hK K
      refine wpQuiet_off (fun K hK => ⟨?_, ?_⟩); (focus (go_simp; done)); go_simp; refine hK _ ?_; clear hK K
      refine wpQuiet_off (fun K hK => ⟨?_, ?_⟩); (focus (go_simp; done)); go_simp; refine hK _ ?_; clear hK K
      refine wpQuiet_off (fun K hK => ⟨?_, ?_⟩); (focus (go_simp; done)); go_simp; refine hK _ ?_; clear hK K
      refine wpQuiet_off (fun K hK => ⟨?_, ?_⟩); (focus (go_simp; done)); go_simp; refine hK _ ?_; clear hK K
      refine wpQuiet_off (fun K hK => ⟨?_, ?_⟩); (focus (go_simp; done)); go_simp; refine hK _ ?_; clear hK K
      refine wpQuiet_val (fun K hK => ⟨?_, ?_⟩); (focus (go_simp; done)); apply Exists.intro; refine ⟨fun W hW => ?_, ?_⟩; (focus ( go_simp; first | done | rfl)); go_simp; refine hK _ ?_; clear hK K
      refine wpQuiet_nil ?_; intro w2 hw2
      go_wp2
      go_ret2
      exact ⟨by rw [hV.out]; rfl, (hr.alloc _).trans hw2⟩
  · have hk1 : RowKit.Hid (k ≠ 1) := Lib.hid (by simpa using c1)
    clear hcl
    rcases Bool.eq_false_or_eq_true (k == 2) with d1 | d1
    · have hk2 : RowKit.Hid (k = 2) := Lib.hid (by simpa using d1)
      rcases Bool.eq_false_or_eq_true (text.toList.isEmpty) with d2 | d2
      · have ht0 : RowKit.Hid (text.data.toList = []) := Lib.hid ((ba_nil text).1 d2)
        have hV : RowKit.Hid (textV k id text = .tuple #[.string ⟨#[]⟩, .int .i64 2]) := Lib.hid (by
          unfold textV
          rw [if_neg (fun h => by
            rcases h with ⟨h1, h2, h3⟩ | ⟨h1, h2, h3⟩ | ⟨h1, h2, h3⟩
            all_goals first | exact h2 ht0.out | (have := hk2.out; omega))])
        go_wp2
        go_ret2
        exact ⟨by rw [hV.out]; rfl, hr.alloc _⟩
      · have ht0 : RowKit.Hid (text.data.toList ≠ []) := Lib.hid (fun h => by rw [(ba_nil text).2 h] at d2; cases d2)
        obtain ⟨le, hle⟩ : ∃ x, x = linkErr id.data.toList text.data.toList := ⟨_, rfl⟩
        rw [← hle] at hlk
        replace hle := Lib.hid hle
        by_cases hz : le = 0
        · rw [hz] at hlk
          replace hz := Lib.hid hz
          have hok : RowKit.Hid (cmdOk k id.data.toList text.data.toList) := Lib.hid (.inr (.inl ⟨hk2.out, ht0.out, hle.out.symm.trans hz.out⟩))
          go_wp2_with (go_at_call 32; refine (hlk _).mono ?_)
          rintro e W1 ⟨rfl, s1⟩
          have HA1 := Lib.hid (HA.out.sees s1)
          have S1 := (hr.alloc (.cells #[.int .i64 k, .string id, .string text] 30)).trans s1
          have hw1 := hw.sees S1
          go_wp2_with (go_at_call 31; refine (hi8 _ hw1).mono ?_)
          rintro e W2 ⟨rfl, s2⟩
          obtain ⟨y0, y1, y2⟩ := (HA1.out.sees s2).cs
          have S2 := S1.trans s2
          clear q0 q1 q2
          rcases Bool.eq_false_or_eq_true (id.toList.isEmpty) with c2 | c2
          · have hV : RowKit.Hid (textV k id text = .tuple #[.string ((⟨#[56, 59]⟩ ++ ⟨#[59]⟩) ++ text), .int .i64 0]) := Lib.hid (by
              unfold textV cmdText
              rw [if_pos hok.out, if_neg hk1.out, if_neg (fun h => h ((ba_nil id).1 c2))]
              congr 1)
            go_wp2
            go_ret2
            exact ⟨by rw [hV.out]; rfl, S2⟩
          · have hV : RowKit.Hid (textV k id text = .tuple #[.string ((⟨#[56, 59]⟩ ++ (⟨#[105, 100, 61]⟩ ++ id) ++ ⟨#[59]⟩) ++ text), .int .i64 0]) := Lib.hid (by
              unfold textV cmdText
              rw [if_pos hok.out, if_neg hk1.out, if_pos (fun h => by rw [(ba_nil id).2 h] at c2; cases c2)]
              congr 3)
            have z1 : ¬ ((⟨#[105, 100, 61]⟩ : ByteArray).size + id.size > 281474976710656) := by have : (⟨#[105, 100, 61]⟩ : ByteArray).size = 3 := rfl; omega
            go_wp2
            go_ret2
            exact ⟨by rw [hV.out]; rfl, S2⟩
        · have hz2 : (le != 0) = true := bne_iff_ne.2 hz
          replace hz := Lib.hid hz
          have hV : RowKit.Hid (textV k id text = .tuple #[.string ⟨#[]⟩, .int .i64 2]) := Lib.hid (by
            unfold textV
            rw [if_neg (fun h => by
              rcases h with ⟨h1, h2, h3⟩ | ⟨h1, h2, h3⟩ | ⟨h1, h2, h3⟩
              all_goals first | exact hz.out (hle.out.trans h3) | (have := hk2.out; omega))])
          go_wp2_with (go_at_call 32; refine (hlk _).mono ?_)
          rintro e W1 ⟨rfl, s1⟩
          go_wp2
          go_ret2
          exact ⟨by rw [hV.out]; rfl, (hr.alloc _).trans s1⟩
    · have hk2 : RowKit.Hid (k ≠ 2) := Lib.hid (by simpa using d1)
      clear hlk
      rcases Bool.eq_false_or_eq_true (k == 3) with e1 | e1
      · have hk3 : RowKit.Hid (k = 3) := Lib.hid (by simpa using e1)
        rcases Bool.eq_false_or_eq_true (id.toList.isEmpty) with c2 | c2
        · rcases Bool.eq_false_or_eq_true (text.toList.isEmpty) with d2 | d2
          · have hV : RowKit.Hid (textV k id text = .tuple #[.string ⟨#[56, 59, 59]⟩, .int .i64 0]) := Lib.hid (by
              have h1 := (ba_nil id).1 c2
              have h2 := (ba_nil text).1 d2
              unfold textV cmdText
              rw [if_pos (.inr (.inr ⟨hk3.out, h1, h2⟩)), if_neg hk1.out, if_neg (fun h => h h1), h2]
              rfl)
            go_wp2_with (go_at_call 31; refine (hi8 _ (hw.sees (hr.alloc _))).mono ?_)
            rintro e W1 ⟨rfl, s1⟩
            go_wp2
            go_ret2
            exact ⟨by rw [hV.out]; rfl, (hr.alloc _).trans s1⟩
          · have ht0 : RowKit.Hid (text.data.toList ≠ []) := Lib.hid (fun h => by rw [(ba_nil text).2 h] at d2; cases d2)
            have hV : RowKit.Hid (textV k id text = .tuple #[.string ⟨#[]⟩, .int .i64 2]) := Lib.hid (by
              unfold textV
              rw [if_neg (fun h => by
                rcases h with ⟨h1, h2, h3⟩ | ⟨h1, h2, h3⟩ | ⟨h1, h2, h3⟩
                all_goals first | exact ht0.out h3 | (have := hk3.out; omega))])
            go_wp2
            go_ret2
            exact ⟨by rw [hV.out]; rfl, hr.alloc _⟩
        · have hid0 : RowKit.Hid (id.data.toList ≠ []) := Lib.hid (fun h => by rw [(ba_nil id).2 h] at c2; cases c2)
          have hV : RowKit.Hid (textV k id text = .tuple #[.string ⟨#[]⟩, .int .i64 2]) := Lib.hid (by
            unfold textV
            rw [if_neg (fun h => by
              rcases h with ⟨h1, h2, h3⟩ | ⟨h1, h2, h3⟩ | ⟨h1, h2, h3⟩
              all_goals first | exact hid0.out h2 | (have := hk3.out; omega))])
          go_wp2
          go_ret2
          exact ⟨by rw [hV.out]; rfl, hr.alloc _⟩
      · have hk3 : RowKit.Hid (k ≠ 3) := Lib.hid (by simpa using e1)
        have hV : RowKit.Hid (textV k id text = .tuple #[.string ⟨#[]⟩, .int .i64 2]) := Lib.hid (by
          unfold textV
          rw [if_neg (fun h => by
            rcases h with ⟨h1, h2, h3⟩ | ⟨h1, h2, h3⟩ | ⟨h1, h2, h3⟩
            all_goals first | exact hk1.out h1 | exact hk2.out h1 | exact hk3.out h1)])
        go_wp2
        go_ret2
        exact ⟨by rw [hV.out]; rfl, hr.alloc _⟩
end Go.Proofs.YtmmofcfhenjffaaDoor
