/- TitleParses returns true for every input, and leaves its arguments alone; the two tables start as the program's text lays them (the card ties that). -/
import Derived.Test.YtmmofcfhenjffaaDoorTiO
import Derived.Test.YtmmofcfhenjffaaDoorTiL
namespace Go.Proofs.YtmmofcfhenjffaaDoor
set_option linter.unusedVariables false
set_option linter.unusedSimpArgs false
namespace titleParses
open Go.ChangeShapes Go.WideShapes Go.ChangeAt Go.RowKit

abbrev headsC : Array Value := #[.string ⟨#[]⟩, .string ⟨#[48, 59]⟩, .string ⟨#[50, 59]⟩, .string ⟨#[56, 59]⟩, .string ⟨#[56, 59, 59]⟩, .string ⟨#[56, 59, 105, 100, 61]⟩, .string ⟨#[48, 48, 56, 59, 120, 58]⟩, .string ⟨#[49, 59]⟩]
set_option maxHeartbeats 4000000 in
set_option maxRecDepth 100000 in
theorem walk (s : ByteArray) (w : World) (hst : Std w) (hmax : s.size ≤ maxLen) :
    Calls Tryd.prog 5 #[.string s] w fun e w' => e = .returned (.bool true) ∧ Sees w w' := by
  have hw := Sees.refl w
  by_cases h7 : 700 < s.size
  · have t1 : decide ((s.size : Int) > 700) = true := decide_eq_true (by omega)
    have t2 : decide (700 < s.size) = true := decide_eq_true h7
    go_enter Tryd.func5, Tryd.ntmps5
    go_wp2_with fail
    refine (known26 _ hst).mono ?_
    rintro e W1 ⟨rfl, s1⟩
    go_wp2
    go_ret
    exact ⟨rfl, s1⟩
  · have t1 : decide ((s.size : Int) > 700) = false := decide_eq_false (by omega)
    have t2 : decide (700 < s.size) = false := decide_eq_false h7
    have hH : ∀ k < 8, ∃ H : ByteArray, headsC[k]? = some (.string H) ∧ H.size ≤ 10 := by
      intro k hk
      match k, hk with
      | 0, _ => exact ⟨_, rfl, by decide⟩
      | 1, _ => exact ⟨_, rfl, by decide⟩
      | 2, _ => exact ⟨_, rfl, by decide⟩
      | 3, _ => exact ⟨_, rfl, by decide⟩
      | 4, _ => exact ⟨_, rfl, by decide⟩
      | 5, _ => exact ⟨_, rfl, by decide⟩
      | 6, _ => exact ⟨_, rfl, by decide⟩
      | 7, _ => exact ⟨_, rfl, by decide⟩
    go_enter Tryd.func5, Tryd.ntmps5
    go_wp2
    have s0 : Sees w (w.alloc (.cells headsC 9)) := hw.alloc _
    have hA : (w.alloc (.cells headsC 9)).heap[w.heap.size]? = some (.cells headsC 9 (0, 0)) := heap_alloc_new w _
    generalize (w.alloc (.cells headsC 9)) = W0 at s0 hA ⊢
    generalize w.heap.size = b at hA ⊢
    go_loopw [13] (fun x W => ∃ k : Nat, x = .int .i64 k ∧ k ≤ 8 ∧ RowKit.Hid (W.heap[b]? = some (.cells headsC 9 (0, 0))) ∧ RowKit.Hid (Sees w W)) (fun x _ => 8 - (intOf x).toNat)
    case atStart => exact ⟨0, rfl, by omega, Lib.hid hA, Lib.hid s0⟩
    case round =>
      obtain ⟨k, rfl, hk, hB, hS⟩ := hrel
      clear hA s0
      by_cases hlt : k < 8
      · obtain ⟨H, hHk, hHs⟩ := hH k hlt
        have hc := Go.cell_of_row _ _ k _ _ _ hB.out
        rw [hHk] at hc
        clear hHk
        have hL : (H ++ s).size ≤ 1000000 := by rw [ByteArray.size_append]; omega
        have hLz : ¬ (9223372036854775807 < H.size + s.size) := by omega
        obtain ⟨q, I, T, er, hp⟩ := parse_named (H ++ s)
        replace hp := Lib.hid hp
        replace hL := Lib.hid hL
        go_wp2_with fail
        refine (rparse_at _ q I T er hL.out hp.out _).mono ?_
        rintro e W1 ⟨rfl, s1⟩
        have HS := Lib.hid (hS.out.trans s1)
        have HB := Lib.hid (seen_row s1 hB.out)
        clear hc
        have y := CmdAt.new W1 q I T
        obtain ⟨y0, y1, y2⟩ := y.cs
        have s2 := (Sees.refl W1).alloc (.cells #[.int .i64 q, .string I, .string T] 30)
        replace HS := Lib.hid (HS.out.trans s2)
        replace HB := Lib.hid (seen_row s2 HB.out)
        go_wp2_with fail
        refine (parses_at _ q I T er hL.out _ (hst.sees HS.out) hp.out).mono ?_
        rintro e W3 ⟨rfl, s3⟩
        replace HS := Lib.hid (HS.out.trans s3)
        replace HB := Lib.hid (seen_row s3 HB.out)
        clear y0 y1 y2 y s2 s3 s1
        go_wp2
        go_roundw
        case rel => exact ⟨k + 1, by go_num, by omega, HB, HS⟩
        case measure => simp [intOf]; omega
      · obtain rfl : k = 8 := by omega
        go_wp2_with fail
        refine (known26 _ (hst.sees hS.out)).mono ?_
        rintro e W1 ⟨rfl, s1⟩
        go_wp2
        go_ret
        exact ⟨rfl, hS.out.trans s1⟩

set_option maxRecDepth 100000 in
theorem contract (H : Type) (enc : TypeId × Value → H) (W : World) (base : Nat) (args : Array Value) (ds gs : List (DataW H)) (before : List MemPlace)
    (hval : ∀ (j : Nat) t v, Tryd.f5.params[j]? = some t → args[j]? = some v → Value.okWide Tryd.prog W .any base t v)
    (hW : DataW.Whole enc Tryd.prog Tryd.f5.params.toList Rows.titleParsesSpec.vars false W args.toList ds gs before) (hL : laidMetH Tryd.prog Rows.titleParsesRow.laid W) (hsh : W.ShapedOpen Tryd.prog) :
    Calls Tryd.prog 5 args W fun e W' => ∃ v, e = .returned v ∧ Rows.titleParsesSpec.post enc Tryd.prog Tryd.f5 false true false false W args v W' := by
  have hW' := hW
  obtain ⟨p, q, hA0, hV, rfl, hfz, hnd⟩ := hW
  have hA : DataW.TrodAll enc Tryd.prog W 0 (fun _ => true) true Tryd.f5.params.toList args.toList ds p := hA0
  rw [Tryd.params5] at hA hval
  obtain ⟨v0, vs0, d0, ds0, p0, q0, hargs, rfl, rfl, h0, r0⟩ := trodAll_cons hA
  obtain ⟨rfl, rfl, rfl⟩ := trodAll_nil r0
  obtain rfl : args = #[v0] := by cases args; simp_all
  obtain ⟨ss, rfl, rfl, rfl, xs⟩ := Go.ChangeMaps.open_string Tryd.underlying9 (hval 0 9 v0 rfl rfl) h0
  refine (walk ss W (std_of_laid hL hsh) xs).mono fun e W' ⟨he, hs⟩ => ?_
  subst he
  exact ⟨_, rfl, law_post (tb := 4) laidOut (by
    rw [Tryd.params5]; intro t ht
    simp only [List.mem_cons, List.not_mem_nil, or_false] at ht
    rcases ht with rfl <;> exact ⟨by kernel_rfl, of_decide_eq_true (by kernel_rfl)⟩) hW' rfl (fun ds hl => by
    rw [Tryd.params5] at hl
    match ds, hl with
    | [_], _ => rfl) (by kernel_rfl) Tryd.underlying4 hs⟩

abbrev startArgs : Array Value := #[.string ⟨#[]⟩]
noncomputable abbrev start (os : Os) : World := laidWorld os
theorem laid_met (os : Os) : laidMet Tryd.prog Rows.titleParsesRow.laid ((start os).forCall (fun _ _ => 0) ⟨#[], startArgs, []⟩).memory :=
  laidMet_of_run' 8 (by kernel_rfl) (by kernel_rfl)
theorem reads (os : Os) {H : Type} (enc : TypeId × Value → H) : ∃ x, DataW.whole enc Tryd.prog ((start os).forCall (fun _ _ => 0) ⟨#[], startArgs, []⟩).memory Tryd.f5.params.toList Rows.titleParsesSpec.vars false startArgs.toList 8 = some x :=
  ⟨([.lit (.string [])], [], []), by kernel_rfl⟩

set_option maxRecDepth 100000 in
theorem lifted (os : Os) (started : os.Started) (H : Type) (enc : TypeId × Value → H) (F : Stop.Interp) :
    ReturnsInHanded {} Tryd.checked os 5 .any ((OpenSpec.ofChange Rows.titleParsesSpec).preRow enc Tryd.prog Tryd.f5 Rows.titleParsesRow.domain false Rows.titleParsesRow.laid) (((OpenSpec.ofChange Rows.titleParsesSpec).at F).post enc Tryd.prog Tryd.f5 false true false false) := by
  obtain ⟨x, hx⟩ := reads os enc
  refine returnsInHanded_of_row (C := Tryd.checked) (s := OpenSpec.ofChange Rows.titleParsesSpec) ownK started (by kernel_rfl) Tryd.func5
    (witness_row_at (enc := enc) (C := Tryd.checked) false (start os) startArgs rfl (by kernel_rfl) (by kernel_rfl) (by kernel_rfl)
      (OpenSpec.preRow_of_cond 8 hx (by kernel_rfl) (fun k hk => by cases hk) (by kernel_rfl) (laid_met os))) ?_
  intro W base args ds gs before hval hW _ _ _ hL hsh _
  exact contract H enc W base args ds gs before hval hW hL hsh

theorem said : Rows.TitleParsesSaid :=
  OpenClaim.holds_of_cond 5 Tryd.f5 rfl rfl rfl rfl rfl rfl rfl ⟨rfl, rfl, rfl, rfl, rfl⟩ rfl rfl rfl rfl rfl (by kernel_rfl) Tryd.func5 (by kernel_rfl)
    (of_decide_eq_true (by kernel_rfl)) (by unfold Func.isWrapper; first | (rw [if_pos (by decide +kernel)]; kernel_rfl) | (rw [if_neg (by decide +kernel)]; exact ⟨rfl, rfl⟩))
    (fun os started H enc _ F => by rw [OpenClaim.pre_eq_preRow]; exact lifted os started H enc F)

theorem plain (f : FuncId) (fn : Func) (hf : Tryd.pinned.checked.prog.funcNamed Rows.titleParsesRow.func = some f) (hfn : Tryd.pinned.checked.prog.funcs[f]? = some fn) :
    true = Tryd.pinned.checked.prog.looks [] ∧ ∀ (j : Nat) t, fn.params[j]? = some t → Tryd.pinned.checked.prog.wantsStandIn t = false := by
  obtain rfl : f = 5 := Option.some.inj ((show Tryd.prog.funcNamed Rows.titleParsesRow.func = some 5 by kernel_rfl).symm.trans hf) |>.symm
  obtain rfl : fn = Tryd.f5 := (Option.some.inj (Tryd.func5.symm.trans hfn)).symm
  refine ⟨by kernel_rfl, fun j t ht => ?_⟩
  rw [Tryd.params5] at ht
  have hm := Array.mem_of_getElem? ht
  simp only [List.mem_toArray, List.mem_cons, List.not_mem_nil, or_false] at hm
  rcases hm with rfl
  · exact (show Tryd.prog.wantsStandIn 9 = false by kernel_rfl)

theorem card : Rows.TitleParsesCardSaid :=
  Claim7.holds_tied_plain_at .later [] _ _ _ _ said (fun _ h => by cases h) (by kernel_rfl) (fun _ h => by cases h) titleParses_row_tie rfl ⟨rfl, rfl⟩ (by kernel_rfl) rfl plain (by kernel_rfl)
end titleParses
end Go.Proofs.YtmmofcfhenjffaaDoor
