/- The reference's Is and Text (26). No condition. -/
import Derived.Test.YtmmofcfhenjffaaDoorTiY
namespace Go.Proofs.YtmmofcfhenjffaaDoor
set_option linter.unusedVariables false
set_option linter.unusedSimpArgs false
open Go.RowKit

theorem isF {k : Int} {id text : ByteArray} {c : Bool} (h : cmdOk k id.data.toList text.data.toList ↔ c = true) : decide (cmdOk k id.data.toList text.data.toList) = c := by
  cases c
  · exact decide_eq_false (fun q => by cases h.1 q)
  · exact decide_eq_true (h.2 rfl)
theorem lenI (s : ByteArray) : (s.data.toList.length : Int) = (s.size : Int) := by rw [Lib.size_eq]
set_option maxHeartbeats 4000000 in
set_option maxRecDepth 100000 in
theorem ris_any (k : Int) (id text : ByteArray) (h1 : id.size ≤ 1000000) (h2 : text.size ≤ 1000000) (w : World) :
    Calls Tryd.prog 14 #[cmd k id text] w fun e w' => e = .returned (.bool (decide (cmdOk k id.data.toList text.data.toList))) ∧ Sees w w' := by
  have hcl := fun W => rclean_any text (by omega) W
  have hg1 := fun W => rgraphic_text text (by omega) W
  have hg2 := fun W => rgraphic_id id (by omega) W
  obtain ⟨C, hC⟩ : ∃ C : ByteArray, C = ⟨(cleanT text.data.toList).toArray⟩ := ⟨_, rfl⟩
  rw [← hC] at hcl
  replace hC := Lib.hid hC
  have hr := Sees.refl w
  have A0 := CmdAt.new w k id text
  obtain ⟨q0, q1, q2⟩ := A0.cs
  have HA := Lib.hid A0
  clear A0
  go_enter Tryd.func14, Tryd.ntmps14
  rcases Bool.eq_false_or_eq_true (k == 1) with c1 | c1
  · have hk1 : RowKit.Hid (k = 1) := Lib.hid (by simpa using c1)
    rcases Bool.eq_false_or_eq_true (id.toList.isEmpty) with c2 | c2
    · have hid0 : RowKit.Hid (id.data.toList = []) := Lib.hid ((ba_nil id).1 c2)
      obtain ⟨b, c3⟩ : ∃ b, (C.toList == text.toList) = b := ⟨_, rfl⟩
      have hV : RowKit.Hid (decide (cmdOk k id.data.toList text.data.toList) = b) := Lib.hid (isF ⟨fun h => by
        rw [← c3]
        rcases h with ⟨h1, h2, h3⟩ | ⟨h1, h2, h3⟩ | ⟨h1, h2, h3⟩
        · rw [beq_iff_eq, Lib.toList_data, Lib.toList_data, hC.out]; exact h3
        all_goals (have := hk1.out; omega), fun h => .inl ⟨hk1.out, hid0.out, by
          rw [← c3, beq_iff_eq, Lib.toList_data, Lib.toList_data, hC.out] at h; exact h⟩⟩)
      go_wp2_with fail
      refine wp_region_sees (by kernel_rfl) (by kernel_rfl) ?_
      refine wpQuiet_val (fun K hK => ⟨?_, ?_⟩); (focus (go_simp; done)); apply Exists.intro; refine ⟨fun W hW => ?_, ?_⟩; (focus (obtain ⟨q0, q1, q2⟩ := (HA.out.sees hW).cs; go_simp; first | done | rfl)); go_simp; refine hK _ ?_; clear hK K
      refine wpQuiet_val (fun K hK => ⟨?_, ?_⟩); (focus (go_simp; done)); apply Exists.intro; refine ⟨fun W hW => ?_, ?_⟩; (focus (obtain ⟨q0, q1, q2⟩ := (HA.out.sees hW).cs; go_simp; first | done | rfl)); go_simp; refine hK _ ?_; clear hK K
      refine wpQuiet_val (fun K hK => ⟨?_, ?_⟩); (focus (go_simp; done)); apply Exists.intro; refine ⟨fun W hW => ?_, ?_⟩; (focus ( go_simp; first | done | rfl)); go_simp; refine hK _ ?_; clear hK K
      refine wpQuiet_val (fun K hK => ⟨?_, ?_⟩); (focus (go_simp; done)); apply Exists.intro; refine ⟨fun W hW => ?_, ?_⟩; (focus ( go_simp; first | done | rfl)); go_simp; refine hK _ ?_; clear hK K
      refine wpQuiet_val (fun K hK => ⟨?_, ?_⟩); (focus (go_simp; done)); apply Exists.intro; refine ⟨fun W hW => ?_, ?_⟩; (focus ( go_simp; first | done | rfl)); go_simp; refine hK _ ?_; clear hK K
      refine wpQuiet_val (fun K hK => ⟨?_, ?_⟩); (focus (go_simp; done)); apply Exists.intro; refine ⟨fun W hW => ?_, ?_⟩; (focus (obtain ⟨q0, q1, q2⟩ := (HA.out.sees hW).cs; go_simp; first | done | rfl)); go_simp; refine hK _ ?_; clear hK K
      refine wpQuiet_enter 11 #[.string text] (fun K hK => ⟨?_, fun W hW => ?_, ?_⟩); (focus (go_simp; done)); (focus ( go_simp; done)); apply Exists.intro; refine ⟨fun W hW => (hcl W).mono fun e w'' ⟨he, hb⟩ => ⟨he, hW.trans hb⟩, ?_⟩; go_simp; refine hK _ ?_; clear hK K
      refine wpQuiet_val (fun K hK => ⟨?_, ?_⟩); (focus (go_simp; done)); apply Exists.intro; refine ⟨fun W hW => ?_, ?_⟩; (focus ( go_simp; first | done | rfl)); go_simp; refine hK _ ?_; clear hK K
      refine wpQuiet_val (fun K hK => ⟨?_, ?_⟩); (focus (go_simp; done)); apply Exists.intro; refine ⟨fun W hW => ?_, ?_⟩; (focus (obtain ⟨q0, q1, q2⟩ := (HA.out.sees hW).cs; go_simp; first | done | rfl)); go_simp; refine hK _ ?_; clear hK K
      refine wpQuiet_val (fun K hK => ⟨?_, ?_⟩); (focus (go_simp; done)); apply Exists.intro; refine ⟨fun W hW => ?_, ?_⟩; (focus ( go_simp; first | done | rfl)); go_simp; refine hK _ ?_; clear hK K
      refine wpQuiet_val (fun K hK => ⟨?_, ?_⟩); (focus (go_simp; done)); apply Exists.intro; refine ⟨fun W hW => ?_, ?_⟩; (focus ( go_simp; first | done | rfl)); go_simp; refine hK _ ?_; clear hK K
      refine wpQuiet_val (fun K hK => ⟨?_, ?_⟩); (focus (go_simp; done)); apply Exists.intro; refine ⟨fun W hW => ?_, ?_⟩; (focus ( go_simp; first | done | rfl)); go_simp; refine hK _ ?_; clear hK K
      refine wpQuiet_nil ?_; intro w2 hw2
      go_wp2
      go_ret
      exact ⟨by rw [hV.out]; rfl, (hr.alloc _).trans hw2⟩
    · have hV : RowKit.Hid (decide (cmdOk k id.data.toList text.data.toList) = false) := Lib.hid (isF ⟨fun h => by
        rcases h with ⟨h1, h2, h3⟩ | ⟨h1, h2, h3⟩ | ⟨h1, h2, h3⟩
        · rw [(ba_nil id).2 h2] at c2; cases c2
        all_goals (have := hk1.out; omega), fun h => by cases h⟩)
      go_wp2_with fail
      refine wp_region_sees (by kernel_rfl) (by kernel_rfl) ?_
      refine wpQuiet_val (fun K hK => ⟨?_, ?_⟩); (focus (go_simp; done)); apply Exists.intro; refine ⟨fun W hW => ?_, ?_⟩; (focus (obtain ⟨q0, q1, q2⟩ := (HA.out.sees hW).cs; go_simp; first | done | rfl)); go_simp; refine hK _ ?_; clear hK K
      refine wpQuiet_val (fun K hK => ⟨?_, ?_⟩); (focus (go_simp; done)); apply Exists.intro; refine ⟨fun W hW => ?_, ?_⟩; (focus (obtain ⟨q0, q1, q2⟩ := (HA.out.sees hW).cs; go_simp; first | done | rfl)); go_simp; refine hK _ ?_; clear hK K
      refine wpQuiet_val (fun K hK => ⟨?_, ?_⟩); (focus (go_simp; done)); apply Exists.intro; refine ⟨fun W hW => ?_, ?_⟩; (focus ( go_simp; first | done | rfl)); go_simp; refine hK _ ?_; clear hK K
      refine wpQuiet_val (fun K hK => ⟨?_, ?_⟩); (focus (go_simp; done)); apply Exists.intro; refine ⟨fun W hW => ?_, ?_⟩; (focus ( go_simp; first | done | rfl)); go_simp; refine hK _ ?_; clear hK K
      refine wpQuiet_off (fun K hK => ⟨?_, ?_⟩); (focus (go_simp; done)); go_simp; refine hK _ ?_; clear hK K
      refine wpQuiet_off (fun K hK => ⟨?_, ?_⟩); (focus (go_simp; done)); go_simp; refine hK _ ?_; clear hK K
      refine wpQuiet_off (fun K hK => ⟨?_, ?_⟩); (focus (go_simp; done)); go_simp; refine hK _ ?_; clear hK K
      refine wpQuiet_off (fun K hK => ⟨?_, ?_⟩); (focus (go_simp; done)); go_simp; refine hK _ ?_; clear hK K
      refine wpQuiet_off (fun K hK => ⟨?_, ?_⟩); (focus (go_simp; done)); go_simp; refine hK _ ?_; clear hK K
      refine wpQuiet_off (fun K hK => ⟨?_, ?_⟩); (focus (go_simp; done)); go_simp; refine hK _ ?_; clear hK K
      refine wpQuiet_val (fun K hK => ⟨?_, ?_⟩); (focus (go_simp; done)); apply Exists.intro; refine ⟨fun W hW => ?_, ?_⟩; (focus ( go_simp; first | done | rfl)); go_simp; refine hK _ ?_; clear hK K
      refine wpQuiet_val (fun K hK => ⟨?_, ?_⟩); (focus (go_simp; done)); apply Exists.intro; refine ⟨fun W hW => ?_, ?_⟩; (focus ( go_simp; first | done | rfl)); go_simp; refine hK _ ?_; clear hK K
      refine wpQuiet_nil ?_; intro w2 hw2
      go_wp2
      go_ret
      exact ⟨by rw [hV.out]; rfl, (hr.alloc _).trans hw2⟩
  · have hk1 : RowKit.Hid (k ≠ 1) := Lib.hid (by simpa using c1)
    clear hcl
    rcases Bool.eq_false_or_eq_true (k == 2) with d1 | d1
    · have hk2 : RowKit.Hid (k = 2) := Lib.hid (by simpa using d1)
      obtain ⟨g1, hg1e⟩ : ∃ b, b = gr [] text.data.toList := ⟨_, rfl⟩
      obtain ⟨g2, hg2e⟩ : ∃ b, b = gr [58, 59] id.data.toList := ⟨_, rfl⟩
      have hV : RowKit.Hid (∀ b, b = (((decide ((1 : Int) ≤ (text.size : Int)) && decide ((text.size : Int) ≤ 512)) && decide ((id.size : Int) ≤ 64)) && g1 && g2) → decide (cmdOk k id.data.toList text.data.toList) = b) := Lib.hid (by
        rintro b rfl
        refine isF ⟨fun h => ?_, fun h => .inr (.inl ⟨hk2.out, ?_, ?_⟩)⟩
        · rcases h with ⟨h1, _, _⟩ | ⟨_, h2, h3⟩ | ⟨h1, _, _⟩
          · exact absurd h1 hk1.out
          · unfold linkErr at h3
            by_cases q : 512 < text.data.toList.length ∨ 64 < id.data.toList.length
            · rw [if_pos q] at h3; cases h3
            · rw [if_neg q, ← hg1e, ← hg2e] at h3
              have h0 : 0 < text.size := by
                rw [Lib.size_eq]
                exact List.length_pos_iff.2 h2
              rw [← Lib.size_eq, ← Lib.size_eq] at q
              have h4 : g1 && g2 := by
                cases hgg : (g1 && g2)
                · rw [hgg] at h3; cases h3
                · rfl
              rw [Bool.and_assoc, h4, Bool.and_true, decide_eq_true (by omega), decide_eq_true (by omega), decide_eq_true (by omega)]
              rfl
          · have := hk2.out; omega
        · intro e
          have : text.size = 0 := by rw [Lib.size_eq, e]; rfl
          simp only [Bool.and_eq_true, decide_eq_true_eq] at h
          omega
        · simp only [Bool.and_eq_true, decide_eq_true_eq] at h
          unfold linkErr
          rw [if_neg (by rw [← Lib.size_eq, ← Lib.size_eq]; omega), ← hg1e, ← hg2e, h.1.2, h.2]
          rfl)
      rw [← hg1e] at hg1
      rw [← hg2e] at hg2
      clear hg1e hg2e
      have hF := hV.out
      clear hV
      rcases Bool.eq_false_or_eq_true (decide ((1 : Int) ≤ (text.size : Int))) with e1 | e1
      · have e0 : decide ((text.size : Int) ≥ 1) = true := e1
        rcases Bool.eq_false_or_eq_true (decide ((text.size : Int) ≤ 512)) with e2 | e2
        · rcases Bool.eq_false_or_eq_true (decide ((id.size : Int) ≤ 64)) with e3 | e3
          · cases g1
            · have hV : RowKit.Hid (decide (cmdOk k id.data.toList text.data.toList) = false) := Lib.hid (hF _ (by rw [e1, e2, e3]; cases g2 <;> rfl))
              clear hF hg2
              go_wp2_with fail
              refine (hg1 _).mono ?_
              rintro e W1 ⟨rfl, rfl⟩
              go_wp2
              go_ret
              exact ⟨by rw [hV.out]; rfl, hr.alloc _⟩
            · have hV : RowKit.Hid (decide (cmdOk k id.data.toList text.data.toList) = g2) := Lib.hid (hF _ (by rw [e1, e2, e3]; cases g2 <;> rfl))
              clear hF
              go_wp2_with fail
              refine (hg1 _).mono ?_
              rintro e W1 ⟨rfl, rfl⟩
              go_wp2_with fail
              refine (hg2 _).mono ?_
              rintro e W1 ⟨rfl, rfl⟩
              go_wp2
              go_ret
              exact ⟨by rw [hV.out]; rfl, hr.alloc _⟩
          · have hV : RowKit.Hid (decide (cmdOk k id.data.toList text.data.toList) = false) := Lib.hid (hF _ (by rw [e1, e2, e3]; cases g1 <;> cases g2 <;> rfl))
            clear hF
            clear hg1 hg2
            go_wp2
            go_ret
            exact ⟨by rw [hV.out]; rfl, hr.alloc _⟩
        · have hV : RowKit.Hid (decide (cmdOk k id.data.toList text.data.toList) = false) := Lib.hid (hF _ (by rw [e1, e2]; generalize decide ((id.size : Int) ≤ 64) = x; cases x <;> cases g1 <;> cases g2 <;> rfl))
          clear hF
          clear hg1 hg2
          go_wp2
          go_ret
          exact ⟨by rw [hV.out]; rfl, hr.alloc _⟩
      · have e0 : decide ((text.size : Int) ≥ 1) = false := e1
        have hV : RowKit.Hid (decide (cmdOk k id.data.toList text.data.toList) = false) := Lib.hid (hF _ (by rw [e1]; generalize decide ((id.size : Int) ≤ 64) = x; generalize decide ((text.size : Int) ≤ 512) = y; cases x <;> cases y <;> cases g1 <;> cases g2 <;> rfl))
        clear hF
        clear hg1 hg2
        go_wp2
        go_ret
        exact ⟨by rw [hV.out]; rfl, hr.alloc _⟩
    · have hk2 : RowKit.Hid (k ≠ 2) := Lib.hid (by simpa using d1)
      clear hg1 hg2
      rcases Bool.eq_false_or_eq_true (k == 3) with e1 | e1
      · have hk3 : RowKit.Hid (k = 3) := Lib.hid (by simpa using e1)
        have hV : RowKit.Hid (∀ b, b = (id.toList.isEmpty && text.toList.isEmpty) → decide (cmdOk k id.data.toList text.data.toList) = b) := Lib.hid (by
          rintro b rfl
          refine isF ⟨fun h => ?_, fun h => .inr (.inr ⟨hk3.out, ?_, ?_⟩)⟩
          · rcases h with ⟨h1, _, _⟩ | ⟨h1, _, _⟩ | ⟨_, h2, h3⟩
            · exact absurd h1 hk1.out
            · exact absurd h1 hk2.out
            · rw [(ba_nil id).2 h2, (ba_nil text).2 h3]; rfl
          · rw [Bool.and_eq_true] at h; exact (ba_nil id).1 h.1
          · rw [Bool.and_eq_true] at h; exact (ba_nil text).1 h.2)
        have hF := hV.out
        clear hV
        rcases Bool.eq_false_or_eq_true (id.toList.isEmpty) with c2 | c2 <;> rcases Bool.eq_false_or_eq_true (text.toList.isEmpty) with d2 | d2
        all_goals
          have hV := Lib.hid (hF _ (by rw [c2, d2]))
          clear hF
          go_wp2
          go_ret
          exact ⟨by rw [hV.out]; rfl, hr.alloc _⟩
      · have hk3 : RowKit.Hid (k ≠ 3) := Lib.hid (by simpa using e1)
        have hV : RowKit.Hid (decide (cmdOk k id.data.toList text.data.toList) = false) := Lib.hid (isF ⟨fun h => by
          rcases h with ⟨h1, h2, h3⟩ | ⟨h1, h2, h3⟩ | ⟨h1, h2, h3⟩
          · exact absurd h1 hk1.out
          · exact absurd h1 hk2.out
          · exact absurd h1 hk3.out, fun h => by cases h⟩)
        go_wp2
        go_ret
        exact ⟨by rw [hV.out]; rfl, hr.alloc _⟩
set_option maxHeartbeats 4000000 in
set_option maxRecDepth 100000 in
theorem rtext_any (k : Int) (id text : ByteArray) (h1 : id.size ≤ 1000000) (h2 : text.size ≤ 1000000) (w : World) :
    Calls Tryd.prog 16 #[cmd k id text] w fun e w' => e = .returned (.string ⟨(cmdText k id.data.toList text.data.toList).toArray⟩) ∧ Sees w w' := by
  have hr := Sees.refl w
  have A0 := CmdAt.new w k id text
  obtain ⟨q0, q1, q2⟩ := A0.cs
  clear A0
  go_enter Tryd.func16, Tryd.ntmps16
  rcases Bool.eq_false_or_eq_true (k == 1) with c1 | c1
  · have hV : RowKit.Hid ((⟨(cmdText k id.data.toList text.data.toList).toArray⟩ : ByteArray) = ⟨#[50, 59]⟩ ++ text) := Lib.hid (by
      unfold cmdText
      rw [if_pos (by simpa using c1)]
      rfl)
    have z1 : ¬ ((⟨#[50, 59]⟩ : ByteArray).size + text.size > 281474976710656) := by have : (⟨#[50, 59]⟩ : ByteArray).size = 2 := rfl; omega
    go_wp2
    go_ret
    exact ⟨by rw [hV.out]; rfl, hr.alloc _⟩
  · rcases Bool.eq_false_or_eq_true (id.toList.isEmpty) with c2 | c2
    · have hV : RowKit.Hid ((⟨(cmdText k id.data.toList text.data.toList).toArray⟩ : ByteArray) = ⟨#[56, 59, 59]⟩ ++ text) := Lib.hid (by
        unfold cmdText
        rw [if_neg (by simpa using c1), if_neg (fun h => h ((ba_nil id).1 c2))]
        rfl)
      go_wp2
      go_ret
      exact ⟨by rw [hV.out]; rfl, hr.alloc _⟩
    · have hV : RowKit.Hid ((⟨(cmdText k id.data.toList text.data.toList).toArray⟩ : ByteArray) = ⟨#[56, 59, 105, 100, 61]⟩ ++ id ++ ⟨#[59]⟩ ++ text) := Lib.hid (by
        unfold cmdText
        rw [if_neg (by simpa using c1), if_pos (fun h => by rw [(ba_nil id).2 h] at c2; cases c2)]
        rfl)
      go_wp2
      go_ret
      exact ⟨by rw [hV.out]; rfl, hr.alloc _⟩
end Go.Proofs.YtmmofcfhenjffaaDoor
