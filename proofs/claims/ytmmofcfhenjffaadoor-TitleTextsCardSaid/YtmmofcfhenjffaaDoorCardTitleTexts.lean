/- TitleTexts returns true for every input, and leaves its arguments alone; the two tables start as the program's text lays them (the card ties that). -/
import Derived.Test.YtmmofcfhenjffaaDoorTiO
import Derived.Test.YtmmofcfhenjffaaDoorTiL
namespace Go.Proofs.YtmmofcfhenjffaaDoor
set_option linter.unusedVariables false
set_option linter.unusedSimpArgs false
namespace titleTexts
open Go.ChangeShapes Go.WideShapes Go.ChangeAt Go.RowKit

set_option maxHeartbeats 4000000 in
set_option maxRecDepth 100000 in
theorem walk (k : Int) (id text : ByteArray) (w : World) (hst : Std w) (hi : id.size ≤ maxLen) (ht : text.size ≤ maxLen) :
    Calls Tryd.prog 6 #[cmd k id text] w fun e w' => e = .returned (.bool true) ∧ Sees w w' := by
  have hr := Sees.refl w
  have A0 := CmdAt.new w k id text
  obtain ⟨q0, q1, q2⟩ := A0.cs
  have hs1 := hr.alloc (.cells #[.int .i64 k, .string id, .string text] 30)
  have S1 := hst.sees hs1
  have HA := Lib.hid A0
  clear A0
  have z1 : ∀ n : Nat, decide ((n : Int) > 700) = decide (700 < n) := fun n => by
    by_cases h : 700 < n
    · rw [decide_eq_true h, decide_eq_true (by omega)]
    · rw [decide_eq_false h, decide_eq_false (by omega)]
  by_cases h1 : 700 < text.size
  · have t1 : decide ((text.size : Int) > 700) = true := by rw [z1]; exact decide_eq_true h1
    clear z1
    go_enter Tryd.func6, Tryd.ntmps6
    go_wp2_with fail
    refine (known26 _ S1).mono ?_
    rintro e W1 ⟨rfl, s1⟩
    go_wp2
    go_ret
    exact ⟨rfl, hs1.trans s1⟩
  · have t1 : decide ((text.size : Int) > 700) = false := by rw [z1]; exact decide_eq_false h1
    by_cases h2 : 700 < id.size
    · have t2 : decide ((id.size : Int) > 700) = true := by rw [z1]; exact decide_eq_true h2
      clear z1
      go_enter Tryd.func6, Tryd.ntmps6
      go_wp2_with fail
      refine (known26 _ S1).mono ?_
      rintro e W1 ⟨rfl, s1⟩
      go_wp2
      go_ret
      exact ⟨rfl, hs1.trans s1⟩
    · have t2 : decide ((id.size : Int) > 700) = false := by rw [z1]; exact decide_eq_false h2
      clear z1
      have hI := fun W => ris_any k id text (by omega) (by omega) W
      by_cases hok : cmdOk k id.data.toList text.data.toList
      · rw [decide_eq_true hok] at hI
        obtain ⟨X, hX, hV, hP, hD⟩ := text_ok hok
        have hT := fun W => rtext_any k id text (by omega) (by omega) W
        rw [mk_of hD.symm] at hT
        clear hD hok
        replace hV := Lib.hid hV
        replace hP := Lib.hid hP
        go_enter Tryd.func6, Tryd.ntmps6
        go_wp2_with fail
        refine (hI _).mono ?_
        rintro e W1 ⟨rfl, s1⟩
        have HS := Lib.hid (hs1.trans s1)
        replace HA := Lib.hid (HA.out.sees s1)
        replace S1 := S1.sees s1
        clear s1 q0 q1 q2
        go_wp2_with fail
        refine wp_region_sees (by kernel_rfl) (by kernel_rfl) ?_
        refine wpQuiet_val (fun K hK => ⟨?_, ?_⟩); (focus (go_simp; done)); apply Exists.intro; refine ⟨fun W hW => ?_, ?_⟩; (focus (obtain ⟨q0, q1, q2⟩ := (HA.out.sees hW).cs; go_simp; first | done | rfl)); go_simp; refine hK _ ?_; clear hK K
        refine wpQuiet_val (fun K hK => ⟨?_, ?_⟩); (focus (go_simp; done)); apply Exists.intro; refine ⟨fun W hW => ?_, ?_⟩; (focus (obtain ⟨q0, q1, q2⟩ := (HA.out.sees hW).cs; go_simp; first | done | rfl)); go_simp; refine hK _ ?_; clear hK K
        refine wpQuiet_enter 16 #[cmd k id text] (fun K hK => ⟨?_, fun W hW => ?_, ?_⟩); (focus (go_simp; done)); (focus ( go_simp; done)); apply Exists.intro; refine ⟨fun W hW => (hT W).mono fun e w'' ⟨he, hb⟩ => ⟨he, hW.trans hb⟩, ?_⟩; go_simp; refine hK _ ?_; clear hK K
        refine wpQuiet_enter 15 #[cmd k id text, .string X, .int .i64 0] (fun K hK => ⟨?_, fun W hW => ?_, ?_⟩); (focus (go_simp; done)); (focus ( go_simp; done)); apply Exists.intro; refine ⟨fun W hW => (texts_at k id text X 0 (by omega) (by omega) W (S1.sees hW) hV.out).mono fun e w'' ⟨he, hb⟩ => ⟨he, hW.trans hb⟩, ?_⟩; go_simp; refine hK _ ?_; clear hK K
        refine wpQuiet_val (fun K hK => ⟨?_, ?_⟩); (focus (go_simp; done)); apply Exists.intro; refine ⟨fun W hW => ?_, ?_⟩; (focus ( go_simp; first | done | rfl)); go_simp; refine hK _ ?_; clear hK K
        refine wpQuiet_val (fun K hK => ⟨?_, ?_⟩); (focus (go_simp; done)); apply Exists.intro; refine ⟨fun W hW => ?_, ?_⟩; (focus (obtain ⟨q0, q1, q2⟩ := (HA.out.sees hW).cs; go_simp; first | done | rfl)); go_simp; refine hK _ ?_; clear hK K
        refine wpQuiet_enter 16 #[cmd k id text] (fun K hK => ⟨?_, fun W hW => ?_, ?_⟩); (focus (go_simp; done)); (focus ( go_simp; done)); apply Exists.intro; refine ⟨fun W hW => (hT W).mono fun e w'' ⟨he, hb⟩ => ⟨he, hW.trans hb⟩, ?_⟩; go_simp; refine hK _ ?_; clear hK K
        refine wpQuiet_val (fun K hK => ⟨?_, ?_⟩); (focus (go_simp; done)); apply Exists.intro; refine ⟨fun W hW => ?_, ?_⟩; (focus (obtain ⟨q0, q1, q2⟩ := (HA.out.sees hW).cs; go_simp; first | done | rfl)); go_simp; refine hK _ ?_; clear hK K
        refine wpQuiet_enter 13 #[.string X, cmd k id text, .int .i64 0] (fun K hK => ⟨?_, fun W hW => ?_, ?_⟩); (focus (go_simp; done)); (focus ( go_simp; done)); apply Exists.intro; refine ⟨fun W hW => (parses_at X k id text 0 (by omega) W (S1.sees hW) hP.out).mono fun e w'' ⟨he, hb⟩ => ⟨he, hW.trans hb⟩, ?_⟩; go_simp; refine hK _ ?_; clear hK K
        refine wpQuiet_val (fun K hK => ⟨?_, ?_⟩); (focus (go_simp; done)); apply Exists.intro; refine ⟨fun W hW => ?_, ?_⟩; (focus ( go_simp; first | done | rfl)); go_simp; refine hK _ ?_; clear hK K
        refine wpQuiet_val (fun K hK => ⟨?_, ?_⟩); (focus (go_simp; done)); apply Exists.intro; refine ⟨fun W hW => ?_, ?_⟩; (focus ( go_simp; first | done | rfl)); go_simp; refine hK _ ?_; clear hK K
        refine wpQuiet_enter 9 #[] (fun K hK => ⟨?_, fun W hW => ?_, ?_⟩); (focus (go_simp; done)); (focus ( go_simp; done)); apply Exists.intro; refine ⟨fun W hW => (known26 W (S1.sees hW)).mono fun e w'' ⟨he, hb⟩ => ⟨he, hW.trans hb⟩, ?_⟩; go_simp; refine hK _ ?_; clear hK K
        refine wpQuiet_val (fun K hK => ⟨?_, ?_⟩); (focus (go_simp; done)); apply Exists.intro; refine ⟨fun W hW => ?_, ?_⟩; (focus ( go_simp; first | done | rfl)); go_simp; refine hK _ ?_; clear hK K
        refine wpQuiet_val (fun K hK => ⟨?_, ?_⟩); (focus (go_simp; done)); apply Exists.intro; refine ⟨fun W hW => ?_, ?_⟩; (focus ( go_simp; first | done | rfl)); go_simp; refine hK _ ?_; clear hK K
        refine wpQuiet_nil ?_; intro w2 hw2
        go_wp2
        go_ret
        exact ⟨rfl, HS.out.trans hw2⟩
      · rw [decide_eq_false hok] at hI
        have hV := Lib.hid (textV_no hok)
        clear hok
        go_enter Tryd.func6, Tryd.ntmps6
        go_wp2_with fail
        refine (hI _).mono ?_
        rintro e W1 ⟨rfl, s1⟩
        have HS := Lib.hid (hs1.trans s1)
        replace HA := Lib.hid (HA.out.sees s1)
        replace S1 := S1.sees s1
        clear s1 q0 q1 q2
        obtain ⟨q0, q1, q2⟩ := HA.out.cs
        go_wp2_with fail
        refine (texts_at k id text ⟨#[]⟩ 2 (by omega) (by omega) _ S1 hV.out).mono ?_
        rintro e W2 ⟨rfl, s2⟩
        replace HS := Lib.hid (HS.out.trans s2)
        replace S1 := S1.sees s2
        go_wp2_with fail
        refine (known26 _ S1).mono ?_
        rintro e W3 ⟨rfl, s3⟩
        go_wp2
        go_ret
        exact ⟨rfl, HS.out.trans s3⟩

set_option maxRecDepth 100000 in
theorem contract (H : Type) (enc : TypeId × Value → H) (W : World) (base : Nat) (args : Array Value) (ds gs : List (DataW H)) (before : List MemPlace)
    (hval : ∀ (j : Nat) t v, Tryd.f6.params[j]? = some t → args[j]? = some v → Value.okWide Tryd.prog W .any base t v)
    (hW : DataW.Whole enc Tryd.prog Tryd.f6.params.toList Rows.titleTextsSpec.vars false W args.toList ds gs before) (hL : laidMetH Tryd.prog Rows.titleTextsRow.laid W) (hsh : W.ShapedOpen Tryd.prog) :
    Calls Tryd.prog 6 args W fun e W' => ∃ v, e = .returned v ∧ Rows.titleTextsSpec.post enc Tryd.prog Tryd.f6 false true false false W args v W' := by
  have hW' := hW
  obtain ⟨p, q, hA0, hV, rfl, hfz, hnd⟩ := hW
  have hA : DataW.TrodAll enc Tryd.prog W 0 (fun _ => true) true Tryd.f6.params.toList args.toList ds p := hA0
  rw [Tryd.params6] at hA hval
  obtain ⟨v0, vs0, d0, ds0, p0, q0, hargs, rfl, rfl, h0, r0⟩ := trodAll_cons hA
  obtain ⟨rfl, rfl, rfl⟩ := trodAll_nil r0
  obtain rfl : args = #[v0] := by cases args; simp_all
  obtain ⟨kc, ic, tc, rfl, xc, yc⟩ := open_cmd (hval 0 30 v0 rfl rfl) h0
  refine (walk kc ic tc W (std_of_laid hL hsh) xc yc).mono fun e W' ⟨he, hs⟩ => ?_
  subst he
  exact ⟨_, rfl, law_post (tb := 4) laidOut (by
    rw [Tryd.params6]; intro t ht
    simp only [List.mem_cons, List.not_mem_nil, or_false] at ht
    rcases ht with rfl <;> exact ⟨by kernel_rfl, of_decide_eq_true (by kernel_rfl)⟩) hW' rfl (fun ds hl => by
    rw [Tryd.params6] at hl
    match ds, hl with
    | [_], _ => rfl) (by kernel_rfl) Tryd.underlying4 hs⟩

abbrev startArgs : Array Value := #[.agg #[.int .i64 0, .string ⟨#[]⟩, .string ⟨#[]⟩]]
noncomputable abbrev start (os : Os) : World := laidWorld os
theorem laid_met (os : Os) : laidMet Tryd.prog Rows.titleTextsRow.laid ((start os).forCall (fun _ _ => 0) ⟨#[], startArgs, []⟩).memory :=
  laidMet_of_run' 8 (by kernel_rfl) (by kernel_rfl)
theorem reads (os : Os) {H : Type} (enc : TypeId × Value → H) : ∃ x, DataW.whole enc Tryd.prog ((start os).forCall (fun _ _ => 0) ⟨#[], startArgs, []⟩).memory Tryd.f6.params.toList Rows.titleTextsSpec.vars false startArgs.toList 8 = some x :=
  ⟨([.agg [.lit (.int .i64 0), .lit (.string []), .lit (.string [])]], [], []), by kernel_rfl⟩

set_option maxRecDepth 100000 in
theorem lifted (os : Os) (started : os.Started) (H : Type) (enc : TypeId × Value → H) (F : Stop.Interp) :
    ReturnsInHanded {} Tryd.checked os 6 .any ((OpenSpec.ofChange Rows.titleTextsSpec).preRow enc Tryd.prog Tryd.f6 Rows.titleTextsRow.domain false Rows.titleTextsRow.laid) (((OpenSpec.ofChange Rows.titleTextsSpec).at F).post enc Tryd.prog Tryd.f6 false true false false) := by
  obtain ⟨x, hx⟩ := reads os enc
  refine returnsInHanded_of_row (C := Tryd.checked) (s := OpenSpec.ofChange Rows.titleTextsSpec) ownK started (by kernel_rfl) Tryd.func6
    (witness_row_at (enc := enc) (C := Tryd.checked) false (start os) startArgs rfl (by kernel_rfl) (by kernel_rfl) (by kernel_rfl)
      (OpenSpec.preRow_of_cond 8 hx (by kernel_rfl) (fun k hk => by cases hk) (by kernel_rfl) (laid_met os))) ?_
  intro W base args ds gs before hval hW _ _ _ hL hsh _
  exact contract H enc W base args ds gs before hval hW hL hsh

theorem said : Rows.TitleTextsSaid :=
  OpenClaim.holds_of_cond 6 Tryd.f6 rfl rfl rfl rfl rfl rfl rfl ⟨rfl, rfl, rfl, rfl, rfl⟩ rfl rfl rfl rfl rfl (by kernel_rfl) Tryd.func6 (by kernel_rfl)
    (of_decide_eq_true (by kernel_rfl)) (by unfold Func.isWrapper; first | (rw [if_pos (by decide +kernel)]; kernel_rfl) | (rw [if_neg (by decide +kernel)]; exact ⟨rfl, rfl⟩))
    (fun os started H enc _ F => by rw [OpenClaim.pre_eq_preRow]; exact lifted os started H enc F)

theorem plain (f : FuncId) (fn : Func) (hf : Tryd.pinned.checked.prog.funcNamed Rows.titleTextsRow.func = some f) (hfn : Tryd.pinned.checked.prog.funcs[f]? = some fn) :
    true = Tryd.pinned.checked.prog.looks [] ∧ ∀ (j : Nat) t, fn.params[j]? = some t → Tryd.pinned.checked.prog.wantsStandIn t = false := by
  obtain rfl : f = 6 := Option.some.inj ((show Tryd.prog.funcNamed Rows.titleTextsRow.func = some 6 by kernel_rfl).symm.trans hf) |>.symm
  obtain rfl : fn = Tryd.f6 := (Option.some.inj (Tryd.func6.symm.trans hfn)).symm
  refine ⟨by kernel_rfl, fun j t ht => ?_⟩
  rw [Tryd.params6] at ht
  have hm := Array.mem_of_getElem? ht
  simp only [List.mem_toArray, List.mem_cons, List.not_mem_nil, or_false] at hm
  rcases hm with rfl
  · exact (show Tryd.prog.wantsStandIn 30 = false by kernel_rfl)

theorem card : Rows.TitleTextsCardSaid :=
  Claim7.holds_tied_plain_at .later [] _ _ _ _ said (fun _ h => by cases h) (by kernel_rfl) (fun _ h => by cases h) titleTexts_row_tie rfl ⟨rfl, rfl⟩ (by kernel_rfl) rfl plain (by kernel_rfl)
end titleTexts
end Go.Proofs.YtmmofcfhenjffaaDoor
