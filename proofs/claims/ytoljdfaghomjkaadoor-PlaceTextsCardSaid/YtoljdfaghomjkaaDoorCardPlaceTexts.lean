/- PlaceTexts returns true for every input, and leaves its arguments alone; the two tables start as the program's text lays them (the card ties that). -/
import Derived.Test.YtoljdfaghomjkaaDoorPlO
import Derived.Test.YtoljdfaghomjkaaDoorPlV
import Derived.Test.YtoljdfaghomjkaaDoorPlK
import Derived.ChangeMaps5
namespace Go.Proofs.YtoljdfaghomjkaaDoor
set_option linter.unusedVariables false
set_option linter.unusedSimpArgs false
namespace placeTexts
open Go.ChangeShapes Go.WideShapes Go.ChangeAt Go.RowKit

set_option maxHeartbeats 4000000 in
set_option maxRecDepth 100000 in
theorem walk (lp cp : Int) (ss : ByteArray) (w : World) (hst : Std w) (hl : I64 lp) (hc : I64 cp) (hmax : ss.size ≤ maxLen) :
    Calls Tryd.prog 6 #[pl lp cp, .string ss] w fun e w' => e = .returned (.bool true) ∧ Sees w w' := by
  have hw := Sees.refl w
  by_cases h40 : 40 < ss.size
  · have t1 : decide ((ss.size : Int) > 40) = true := decide_eq_true (by omega)
    have t1' : decide (40 < ss.size) = true := decide_eq_true h40
    have t1'' : decide ((40 : Int) < ss.size) = true := decide_eq_true (by omega)
    go_enter Tryd.func6, Tryd.ntmps6
    go_wp2_with fail
    refine (known09 _ (hst.sees (hw.alloc _))).mono ?_
    rintro e w1 ⟨rfl, s1⟩
    have hS := (hw.alloc _).trans s1
    go_wp2
    go_ret
    exact ⟨rfl, hS⟩
  have t1 : decide ((ss.size : Int) > 40) = false := decide_eq_false (by omega)
  have t1' : decide (40 < ss.size) = false := decide_eq_false h40
  have t1'' : decide ((40 : Int) < ss.size) = false := decide_eq_false (by omega)
  have hsz : ss.size < 4294967281 := by omega
  have HP := Lib.hid (rparse_any ss ss.size rfl (by omega))
  clear hmax
  go_enter Tryd.func6, Tryd.ntmps6
  go_wp2_with fail
  refine (rvalid_any lp cp _).mono ?_
  rintro e w1 ⟨rfl, s1⟩
  have hS1 := (hw.alloc _).trans s1
  have A := (PlAt.new w lp cp).sees s1
  obtain ⟨a0, a1⟩ := A.cs
  clear s1
  by_cases hv : vP lp cp = true
  · have HT := Lib.hid (rtext_ok lp cp hv)
    have HX := Lib.hid (text_true_ok lp cp hl hc hv (txt lp cp) rfl)
    have HR := Lib.hid (parses_true (txt lp cp) (txt_size lp cp hl hc) lp cp 0 (.inl ⟨has_txt hv, rfl⟩))
    have HV : Hid (∀ W, Sees w1 W → W.cell? ⟨w.heap.size, 0, none⟩ = some (.int .i64 lp) ∧ W.cell? ⟨w.heap.size, 1, none⟩ = some (.int .i64 cp)) := Lib.hid fun W h => (A.sees h).cs
    rw [hv]
    clear hl hc
    go_wp2_with fail
    refine wp_region_sees (by kernel_rfl) (by kernel_rfl) ?_
    refine wpQuiet_val (fun K hK => ⟨?_, ?_⟩); (focus (go_simp; done)); apply Exists.intro; refine ⟨fun W hW => ?_, ?_⟩; (focus (have q := HV.out W hW; obtain ⟨r0, r1⟩ := q; go_simp; first | done | rfl)); go_simp; refine hK _ ?_; clear hK K
    refine wpQuiet_val (fun K hK => ⟨?_, ?_⟩); (focus (go_simp; done)); apply Exists.intro; refine ⟨fun W hW => ?_, ?_⟩; (focus (have q := HV.out W hW; obtain ⟨r0, r1⟩ := q; go_simp; first | done | rfl)); go_simp; refine hK _ ?_; clear hK K
    refine wpQuiet_enter 23 #[pl lp cp] (fun K hK => ⟨?_, fun W hW => ?_, ?_⟩); (focus (go_simp; done)); (focus (have hc := hW.cells;  go_simp; done)); apply Exists.intro; refine ⟨fun W hW => (HT.out W).mono fun e w'' ⟨he, hb⟩ => ⟨he, hW.trans hb⟩, ?_⟩; go_simp; refine hK _ ?_; clear hK K
    refine wpQuiet_enter 22 #[pl lp cp, .string (txt lp cp), .int .i64 0] (fun K hK => ⟨?_, fun W hW => ?_, ?_⟩); (focus (go_simp; done)); (focus (have hc := hW.cells;  go_simp; done)); apply Exists.intro; refine ⟨fun W hW => (HX.out W (hst.sees (hS1.trans hW))).mono fun e w'' ⟨he, hb⟩ => ⟨he, hW.trans hb⟩, ?_⟩; go_simp; refine hK _ ?_; clear hK K
    refine wpQuiet_val (fun K hK => ⟨?_, ?_⟩); (focus (go_simp; done)); apply Exists.intro; refine ⟨fun W hW => ?_, ?_⟩; (focus ( go_simp; first | done | rfl)); go_simp; refine hK _ ?_; clear hK K
    refine wpQuiet_val (fun K hK => ⟨?_, ?_⟩); (focus (go_simp; done)); apply Exists.intro; refine ⟨fun W hW => ?_, ?_⟩; (focus ( go_simp; first | done | rfl)); go_simp; refine hK _ ?_; clear hK K
    refine wpQuiet_val (fun K hK => ⟨?_, ?_⟩); (focus (go_simp; done)); apply Exists.intro; refine ⟨fun W hW => ?_, ?_⟩; (focus (have q := HV.out W hW; obtain ⟨r0, r1⟩ := q; go_simp; first | done | rfl)); go_simp; refine hK _ ?_; clear hK K
    refine wpQuiet_enter 23 #[pl lp cp] (fun K hK => ⟨?_, fun W hW => ?_, ?_⟩); (focus (go_simp; done)); (focus (have hc := hW.cells;  go_simp; done)); apply Exists.intro; refine ⟨fun W hW => (HT.out W).mono fun e w'' ⟨he, hb⟩ => ⟨he, hW.trans hb⟩, ?_⟩; go_simp; refine hK _ ?_; clear hK K
    refine wpQuiet_val (fun K hK => ⟨?_, ?_⟩); (focus (go_simp; done)); apply Exists.intro; refine ⟨fun W hW => ?_, ?_⟩; (focus (have q := HV.out W hW; obtain ⟨r0, r1⟩ := q; go_simp; first | done | rfl)); go_simp; refine hK _ ?_; clear hK K
    refine wpQuiet_enter 24 #[.string (txt lp cp), pl lp cp, .int .i64 0] (fun K hK => ⟨?_, fun W hW => ?_, ?_⟩); (focus (go_simp; done)); (focus (have hc := hW.cells;  go_simp; done)); apply Exists.intro; refine ⟨fun W hW => (HR.out W (hst.sees (hS1.trans hW))).mono fun e w'' ⟨he, hb⟩ => ⟨he, hW.trans hb⟩, ?_⟩; go_simp; refine hK _ ?_; clear hK K
    refine wpQuiet_val (fun K hK => ⟨?_, ?_⟩); (focus (go_simp; done)); apply Exists.intro; refine ⟨fun W hW => ?_, ?_⟩; (focus ( go_simp; first | done | rfl)); go_simp; refine hK _ ?_; clear hK K
    refine wpQuiet_val (fun K hK => ⟨?_, ?_⟩); (focus (go_simp; done)); apply Exists.intro; refine ⟨fun W hW => ?_, ?_⟩; (focus ( go_simp; first | done | rfl)); go_simp; refine hK _ ?_; clear hK K
    refine wpQuiet_nil ?_
    intro w7 s7
    have hSp := hS1.trans s7
    clear s7 HV HT HX HR a0 a1
    go_wp2_with fail
    refine (HP.out _).mono ?_
    rintro e w8 ⟨hres, s8⟩
    have hS8 := hSp.trans s8
    rcases hres with ⟨l, c, hh, rfl⟩ | ⟨hno, rfl⟩
    · have HQ := Lib.hid (parses_true ss hsz l c 0 (.inl ⟨hh, rfl⟩))
      go_wp2_with fail
      refine (HQ.out _ (hst.sees (hS8.alloc _))).mono ?_
      rintro e w9 ⟨rfl, s9⟩
      have hS9 := (hS8.alloc _).trans s9
      go_wp2_with fail
      refine (known09 _ (hst.sees hS9)).mono ?_
      rintro e w10 ⟨rfl, s10⟩
      have hS10 := hS9.trans s10
      go_wp2
      go_ret
      exact ⟨rfl, hS10⟩
    · have HQ := Lib.hid (parses_true ss hsz 0 0 6 (pa_bad hno))
      go_wp2_with fail
      refine (HQ.out _ (hst.sees (hS8.alloc _))).mono ?_
      rintro e w9 ⟨rfl, s9⟩
      have hS9 := (hS8.alloc _).trans s9
      go_wp2_with fail
      refine (known09 _ (hst.sees hS9)).mono ?_
      rintro e w10 ⟨rfl, s10⟩
      have hS10 := hS9.trans s10
      go_wp2
      go_ret
      exact ⟨rfl, hS10⟩
  · have hv' : vP lp cp = false := by simpa using hv
    rw [hv']
    have HX := Lib.hid (text_true_bad lp cp hv')
    clear hl hc
    go_wp2_with fail
    refine (HX.out _).mono ?_
    rintro e w7 ⟨rfl, s7⟩
    have hSp := hS1.trans s7
    clear s7 HX a0 a1
    go_wp2_with fail
    refine (HP.out _).mono ?_
    rintro e w8 ⟨hres, s8⟩
    have hS8 := hSp.trans s8
    rcases hres with ⟨l, c, hh, rfl⟩ | ⟨hno, rfl⟩
    · have HQ := Lib.hid (parses_true ss hsz l c 0 (.inl ⟨hh, rfl⟩))
      go_wp2_with fail
      refine (HQ.out _ (hst.sees (hS8.alloc _))).mono ?_
      rintro e w9 ⟨rfl, s9⟩
      have hS9 := (hS8.alloc _).trans s9
      go_wp2_with fail
      refine (known09 _ (hst.sees hS9)).mono ?_
      rintro e w10 ⟨rfl, s10⟩
      have hS10 := hS9.trans s10
      go_wp2
      go_ret
      exact ⟨rfl, hS10⟩
    · have HQ := Lib.hid (parses_true ss hsz 0 0 6 (pa_bad hno))
      go_wp2_with fail
      refine (HQ.out _ (hst.sees (hS8.alloc _))).mono ?_
      rintro e w9 ⟨rfl, s9⟩
      have hS9 := (hS8.alloc _).trans s9
      go_wp2_with fail
      refine (known09 _ (hst.sees hS9)).mono ?_
      rintro e w10 ⟨rfl, s10⟩
      have hS10 := hS9.trans s10
      go_wp2
      go_ret
      exact ⟨rfl, hS10⟩

set_option maxRecDepth 100000 in
theorem contract (H : Type) (enc : TypeId × Value → H) (W : World) (base : Nat) (args : Array Value) (ds gs : List (DataW H)) (before : List MemPlace)
    (hval : ∀ (j : Nat) t v, Tryd.f6.params[j]? = some t → args[j]? = some v → Value.okWide Tryd.prog W .any base t v)
    (hW : DataW.Whole enc Tryd.prog Tryd.f6.params.toList Rows.placeTextsSpec.vars false W args.toList ds gs before) (hL : laidMetH Tryd.prog Rows.placeTextsRow.laid W) (hsh : W.ShapedOpen Tryd.prog) :
    Calls Tryd.prog 6 args W fun e W' => ∃ v, e = .returned v ∧ Rows.placeTextsSpec.post enc Tryd.prog Tryd.f6 false true false false W args v W' := by
  have hW' := hW
  obtain ⟨p, q, hA0, hV, rfl, hfz, hnd⟩ := hW
  have hA : DataW.TrodAll enc Tryd.prog W 0 (fun _ => true) true Tryd.f6.params.toList args.toList ds p := hA0
  rw [Tryd.params6] at hA hval
  obtain ⟨v0, vs0, d0, ds0, p0, q0, hargs, rfl, rfl, h0, r0⟩ := trodAll_cons hA
  obtain ⟨v1, vs1, d1, ds1, p1, q1, rfl, rfl, rfl, h1, r1⟩ := trodAll_cons r0
  obtain ⟨rfl, rfl, rfl⟩ := trodAll_nil r1
  obtain rfl : args = #[v0, v1] := by cases args; simp_all
  obtain ⟨lp, cp, rfl, xp, yp⟩ := open_place (hval 0 23 v0 rfl rfl) h0
  obtain ⟨ss, rfl, rfl, rfl, xs⟩ := Go.ChangeMaps.open_string Tryd.underlying9 (hval 1 9 v1 rfl rfl) h1
  refine (walk lp cp ss W (std_of_laid hL hsh) xp yp xs).mono fun e W' ⟨he, hs⟩ => ?_
  subst he
  exact ⟨_, rfl, law_post (tb := 4) laidOut (by
    rw [Tryd.params6]; intro t ht
    simp only [List.mem_cons, List.not_mem_nil, or_false] at ht
    rcases ht with rfl | rfl <;> exact ⟨by kernel_rfl, of_decide_eq_true (by kernel_rfl)⟩) hW' rfl (fun ds hl => by
    rw [Tryd.params6] at hl
    match ds, hl with
    | [_, _], _ => rfl) (by kernel_rfl) Tryd.underlying4 hs⟩

abbrev startArgs : Array Value := #[.agg #[.int .i64 0, .int .i64 0], .string ⟨#[]⟩]
noncomputable abbrev start (os : Os) : World := laidWorld os
theorem laid_met (os : Os) : laidMet Tryd.prog Rows.placeTextsRow.laid ((start os).forCall (fun _ _ => 0) ⟨#[], startArgs, []⟩).memory :=
  laidMet_of_run' 8 (by kernel_rfl) (by kernel_rfl)
theorem reads (os : Os) {H : Type} (enc : TypeId × Value → H) : ∃ x, DataW.whole enc Tryd.prog ((start os).forCall (fun _ _ => 0) ⟨#[], startArgs, []⟩).memory Tryd.f6.params.toList Rows.placeTextsSpec.vars false startArgs.toList 8 = some x :=
  ⟨([.agg [.lit (.int .i64 0), .lit (.int .i64 0)], .lit (.string [])], [], []), by kernel_rfl⟩

set_option maxRecDepth 100000 in
theorem lifted (os : Os) (started : os.Started) (H : Type) (enc : TypeId × Value → H) (F : Stop.Interp) :
    ReturnsInHanded {} Tryd.checked os 6 .any ((OpenSpec.ofChange Rows.placeTextsSpec).preRow enc Tryd.prog Tryd.f6 Rows.placeTextsRow.domain false Rows.placeTextsRow.laid) (((OpenSpec.ofChange Rows.placeTextsSpec).at F).post enc Tryd.prog Tryd.f6 false true false false) := by
  obtain ⟨x, hx⟩ := reads os enc
  refine returnsInHanded_of_row (C := Tryd.checked) (s := OpenSpec.ofChange Rows.placeTextsSpec) ownK started (by kernel_rfl) Tryd.func6
    (witness_row_at (enc := enc) (C := Tryd.checked) false (start os) startArgs rfl (by kernel_rfl) (by kernel_rfl) (by kernel_rfl)
      (OpenSpec.preRow_of_cond 8 hx (by kernel_rfl) (fun k hk => by cases hk) (by kernel_rfl) (laid_met os))) ?_
  intro W base args ds gs before hval hW _ _ _ hL hsh _
  exact contract H enc W base args ds gs before hval hW hL hsh

theorem said : Rows.PlaceTextsSaid :=
  OpenClaim.holds_of_cond 6 Tryd.f6 rfl rfl rfl rfl rfl rfl rfl ⟨rfl, rfl, rfl, rfl, rfl⟩ rfl rfl rfl rfl rfl (by kernel_rfl) Tryd.func6 (by kernel_rfl)
    (of_decide_eq_true (by kernel_rfl)) (by unfold Func.isWrapper; first | (rw [if_pos (by decide +kernel)]; kernel_rfl) | (rw [if_neg (by decide +kernel)]; exact ⟨rfl, rfl⟩))
    (fun os started H enc _ F => by rw [OpenClaim.pre_eq_preRow]; exact lifted os started H enc F)

theorem plain (f : FuncId) (fn : Func) (hf : Tryd.pinned.checked.prog.funcNamed Rows.placeTextsRow.func = some f) (hfn : Tryd.pinned.checked.prog.funcs[f]? = some fn) :
    true = Tryd.pinned.checked.prog.looks [] ∧ ∀ (j : Nat) t, fn.params[j]? = some t → Tryd.pinned.checked.prog.wantsStandIn t = false := by
  obtain rfl : f = 6 := Option.some.inj ((show Tryd.prog.funcNamed Rows.placeTextsRow.func = some 6 by kernel_rfl).symm.trans hf) |>.symm
  obtain rfl : fn = Tryd.f6 := (Option.some.inj (Tryd.func6.symm.trans hfn)).symm
  refine ⟨by kernel_rfl, fun j t ht => ?_⟩
  rw [Tryd.params6] at ht
  have hm := Array.mem_of_getElem? ht
  simp only [List.mem_toArray, List.mem_cons, List.not_mem_nil, or_false] at hm
  rcases hm with rfl | rfl
  · exact (show Tryd.prog.wantsStandIn 23 = false by kernel_rfl)
  · exact (show Tryd.prog.wantsStandIn 9 = false by kernel_rfl)

theorem card : Rows.PlaceTextsCardSaid :=
  Claim7.holds_tied_plain_at .later [] _ _ _ _ said (fun _ h => by cases h) (by kernel_rfl) (fun _ h => by cases h) placeTexts_row_tie rfl ⟨rfl, rfl⟩ (by kernel_rfl) rfl plain (by kernel_rfl)
end placeTexts
end Go.Proofs.YtoljdfaghomjkaaDoor
