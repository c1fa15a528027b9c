/- TitleHolds returns true for every input, and leaves its arguments alone; the two tables start as the program's text lays them (the card ties that). -/
import Derived.Test.YtmmofcfhenjffaaDoorTiO
import Derived.Test.YtmmofcfhenjffaaDoorTiM
namespace Go.Proofs.YtmmofcfhenjffaaDoor
set_option linter.unusedVariables false
set_option linter.unusedSimpArgs false
namespace titleHolds
open Go.ChangeShapes Go.WideShapes Go.ChangeAt Go.RowKit

set_option maxHeartbeats 4000000 in
set_option maxRecDepth 100000 in
theorem walk (s : ByteArray) (k : Int) (id text : ByteArray) (w : World) (hst : Std w) (hms : s.size ≤ maxLen) (hi : id.size ≤ maxLen) (ht : text.size ≤ maxLen) :
    Calls Tryd.prog 8 #[.string s, cmd k id text] w fun e w' => e = .returned (.bool true) ∧ Sees w w' := by
  have hr := Sees.refl w
  have A0 := CmdAt.new w k id text
  obtain ⟨q0, q1, q2⟩ := A0.cs
  have hs1 := hr.alloc (.cells #[.int .i64 k, .string id, .string text] 30)
  have S1 := hst.sees hs1
  have HA := Lib.hid A0
  clear A0
  have z1 : ∀ n : Nat, decide ((n : Int) > 700) = decide (700 < n) := fun n => by
    by_cases h : 700 < n
    · rw [decide_eq_true h, decide_eq_true (by omega)]
    · rw [decide_eq_false h, decide_eq_false (by omega)]
  by_cases h0 : 700 < s.size
  · have t0 : decide ((s.size : Int) > 700) = true := by rw [z1]; exact decide_eq_true h0
    clear z1
    go_enter Tryd.func8, Tryd.ntmps8
    go_wp2_with fail
    refine (known26 _ S1).mono ?_
    rintro e W1 ⟨rfl, s1⟩
    go_wp2
    go_ret
    exact ⟨rfl, hs1.trans s1⟩
  have t0 : decide ((s.size : Int) > 700) = false := by rw [z1]; exact decide_eq_false h0
  by_cases h1 : 700 < text.size
  · have t1 : decide ((text.size : Int) > 700) = true := by rw [z1]; exact decide_eq_true h1
    clear z1
    go_enter Tryd.func8, Tryd.ntmps8
    go_wp2_with fail
    refine (known26 _ S1).mono ?_
    rintro e W1 ⟨rfl, s1⟩
    go_wp2
    go_ret
    exact ⟨rfl, hs1.trans s1⟩
  have t1 : decide ((text.size : Int) > 700) = false := by rw [z1]; exact decide_eq_false h1
  by_cases h2 : 700 < id.size
  · have t2 : decide ((id.size : Int) > 700) = true := by rw [z1]; exact decide_eq_true h2
    clear z1
    go_enter Tryd.func8, Tryd.ntmps8
    go_wp2_with fail
    refine (known26 _ S1).mono ?_
    rintro e W1 ⟨rfl, s1⟩
    go_wp2
    go_ret
    exact ⟨rfl, hs1.trans s1⟩
  have t2 : decide ((id.size : Int) > 700) = false := by rw [z1]; exact decide_eq_false h2
  clear z1
  obtain ⟨C, hC⟩ : ∃ C : ByteArray, C = ⟨(cleanT s.data.toList).toArray⟩ := ⟨_, rfl⟩
  have hCd : C.data.toList = cleanT s.data.toList := by rw [hC]
  have hCs : C.size ≤ 256 := by rw [Lib.size_eq, hCd]; exact cleanT_len _
  have hCa : cleanT C.data.toList = C.data.toList := by rw [hCd]; exact cleanT_again _
  have hSg := cleanT_segs s.data.toList
  rw [← hCd] at hSg
  have hc1 := fun W => clean_at s C (by omega) hCd.symm W
  have hc2 := fun W => clean_at C C (by omega) hCa W
  have tC : decide ((C.size : Int) > 256) = false := decide_eq_false (by omega)
  have hok1 : cmdOk 1 (⟨#[]⟩ : ByteArray).data.toList C.data.toList := .inl ⟨rfl, rfl, hCa⟩
  obtain ⟨X0, hX0, hV0, hP0, _⟩ := text_ok hok1
  have hT0 := fun W hW => ttext_at 1 ⟨#[]⟩ C X0 0 (by decide) (by omega) hV0 W hW
  have hQ0 := fun W hW => parses_at X0 1 ⟨#[]⟩ C 0 (by omega) W hW hP0
  clear hV0 hP0 hok1 hCa hC hCd hX0
  go_enter Tryd.func8, Tryd.ntmps8
  go_wp2_with fail
  refine (hc1 _).mono ?_
  rintro e W1 ⟨rfl, s1⟩
  replace hs1 := Lib.hid (hs1.trans s1)
  replace HA := Lib.hid (HA.out.sees s1)
  replace S1 := S1.sees s1
  clear s1 q0 q1 q2 hr hc1
  obtain ⟨q0, q1, q2⟩ := HA.out.cs
  go_wp2_with fail
  refine (hc2 _).mono ?_
  rintro e W2 ⟨rfl, s1⟩
  replace hs1 := Lib.hid (hs1.out.trans s1)
  replace HA := Lib.hid (HA.out.sees s1)
  replace S1 := S1.sees s1
  clear s1 q0 q1 q2 hc2
  go_wp2
  go_loopw [] (fun wr => ∃ pos : Nat, wr.heap[W2.heap.size]? = some (.stringIter C pos) ∧ Below W2.heap.size W2 wr ∧ ∃ S : List (List UInt8), C.data.toList.drop pos = S.flatten ∧ ∀ x ∈ S, SegOk x) (fun wr => C.size - wr.iterPos W2.heap.size)
  case atStart =>
    obtain ⟨S, e1, e2⟩ := hSg
    refine ⟨0, ?_, (Below.refl _ W2).alloc (Nat.le_refl _) _, S, e1, e2⟩
    exact World.iter_heap W2 C 0
  case round =>
    clear hSg
    obtain ⟨pos, hit, hbw, S, hS1, hS2⟩ := hrel
    by_cases hp : pos < C.size
    · have hnx : ∀ ty, (Instr.next (.pointer (some ⟨W2.heap.size, 0, none⟩)) true ty).run Tryd.prog wr = _ := fun ty => Lib.run_next_any_at wr W2.heap.size C pos ty hit hp
      have hit2 := Lib.iterAt_heap wr W2.heap.size C pos (pos + (Utf8.decode C pos).2) hit
      have hbw2 := Lib.below_iterAt hbw (k := W2.heap.size) (Nat.le_refl _) C (pos + (Utf8.decode C pos).2)
      have hbig := Lib.decodeL_rune (C.data.toList.drop pos)
      have hwid := Lib.decodeL_width (C.data.toList.drop pos)
      have hdr : (C.data.toList.drop pos).drop (Lib.decodeL (C.data.toList.drop pos)).2 = C.data.toList.drop (pos + (Lib.decodeL (C.data.toList.drop pos)).2) := by rw [List.drop_drop]
      obtain ⟨hnext, hgood⟩ : (∃ S2 : List (List UInt8), C.data.toList.drop (pos + (Lib.decodeL (C.data.toList.drop pos)).2) = S2.flatten ∧ ∀ x ∈ S2, SegOk x) ∧ badR (Lib.decodeL (C.data.toList.drop pos)) = false := by
        match S, hS1, hS2 with
        | [], hS1, _ =>
          have := congrArg List.length hS1
          rw [List.length_drop, ← Lib.size_eq] at this
          simp at this
          omega
        | x :: S, hS1, hS2 =>
          obtain ⟨_, r, h1, h2⟩ := hS2 x (List.mem_cons_self ..)
          rw [← hdr, hS1, List.flatten_cons, h1]
          exact ⟨⟨S, List.drop_left, fun y hy => hS2 y (List.mem_cons_of_mem _ hy)⟩, h2⟩
      rw [Lib.decodeL_drop] at hbig hwid hnext hgood
      have hN := Lib.hid hnext
      clear hnext hdr hS1 hS2
      obtain ⟨b3, g3⟩ : ∃ b, b = decide (((Utf8.decode C pos).1 : Int) < 32) := ⟨_, rfl⟩
      obtain ⟨b4, g4⟩ : ∃ b, b = decide (((Utf8.decode C pos).1 : Int) ≥ 127) := ⟨_, rfl⟩
      obtain ⟨b5, g5⟩ : ∃ b, b = decide (((Utf8.decode C pos).1 : Int) ≤ 159) := ⟨_, rfl⟩
      have hb : b3 = false ∧ (b4 = false ∨ (b4 = true ∧ b5 = false)) := by
        unfold badR at hgood
        simp only [Bool.or_eq_false_iff, Bool.and_eq_false_iff, decide_eq_false_iff_not] at hgood
        obtain ⟨⟨_, e1⟩, e2⟩ := hgood
        refine ⟨by rw [g3]; exact decide_eq_false (by omega), ?_⟩
        by_cases h4 : 127 ≤ (Utf8.decode C pos).1
        · refine .inr ⟨by rw [g4]; exact decide_eq_true (by omega), by rw [g5]; exact decide_eq_false (by omega)⟩
        · exact .inl (by rw [g4]; exact decide_eq_false (by omega))
      replace g3 := g3.symm
      replace g4 := g4.symm
      replace g5 := g5.symm
      clear hgood
      obtain ⟨rfl, hb⟩ := hb
      rcases hb with rfl | ⟨rfl, rfl⟩
      all_goals
        go_wp2
        go_roundw
        case rel => exact ⟨pos + (Utf8.decode C pos).2, hit2, hbw2, hN.out⟩
        case measure =>
          simp only [World.iterPos, hit2, hit]
          omega
    · have hnx : ∀ ty, (Instr.next (.pointer (some ⟨W2.heap.size, 0, none⟩)) true ty).run Tryd.prog wr = _ := fun ty => Lib.run_next_end_at wr W2.heap.size C pos ty hit hp
      clear hS1 hS2
      have sw : Sees W2 wr := hbw
      replace hs1 := Lib.hid (hs1.out.trans sw)
      replace HA := Lib.hid (HA.out.sees sw)
      replace S1 := S1.sees sw
      clear sw hbw
      go_wp2_with fail
      refine (named_at C _).mono ?_
      rintro e W10 ⟨rfl, sw⟩
      replace hs1 := Lib.hid (hs1.out.trans sw)
      replace HA := Lib.hid (HA.out.sees sw)
      replace S1 := S1.sees sw
      clear sw
      go_wp2_with fail
      refine (hT0 _ S1).mono ?_
      rintro e W11 ⟨rfl, sw⟩
      replace hs1 := Lib.hid (hs1.out.trans sw)
      replace HA := Lib.hid (HA.out.sees sw)
      replace S1 := S1.sees sw
      clear sw
      go_wp2_with fail
      refine (named_at C _).mono ?_
      rintro e W12 ⟨rfl, sw⟩
      replace hs1 := Lib.hid (hs1.out.trans sw)
      replace HA := Lib.hid (HA.out.sees sw)
      replace S1 := S1.sees sw
      clear sw
      go_wp2_with fail
      refine (hQ0 _ S1).mono ?_
      rintro e W13 ⟨rfl, sw⟩
      replace hs1 := Lib.hid (hs1.out.trans sw)
      replace HA := Lib.hid (HA.out.sees sw)
      replace S1 := S1.sees sw
      clear sw
      clear hT0 hQ0
      obtain ⟨q0, q1, q2⟩ := HA.out.cs
      by_cases hok : cmdOk k id.data.toList text.data.toList
      · obtain ⟨X, hX, hV, hP, _⟩ := text_ok hok
        have hT1 := fun W hW => ttext_at k id text X 0 (by omega) (by omega) hV W hW
        have hQ1 := fun W hW => parses_at X k id text 0 (by omega) W hW hP
        clear hV hP hok
        go_wp2_with fail
        refine (hT1 _ S1).mono ?_
        rintro e W14 ⟨rfl, sw⟩
        replace hs1 := Lib.hid (hs1.out.trans sw)
        replace HA := Lib.hid (HA.out.sees sw)
        replace S1 := S1.sees sw
        try clear q0 q1 q2
        obtain ⟨q0, q1, q2⟩ := HA.out.cs
        clear sw
        go_wp2_with fail
        refine (hQ1 _ S1).mono ?_
        rintro e W15 ⟨rfl, sw⟩
        replace hs1 := Lib.hid (hs1.out.trans sw)
        replace HA := Lib.hid (HA.out.sees sw)
        replace S1 := S1.sees sw
        clear sw
        rcases parse_ok s with ⟨q, I, T, hp, hcok, hIs, hTs⟩ | ⟨er, her, hp⟩
        · have hp2 := fun W hW => parse_at s q I T 0 (by omega) hp W hW
          obtain ⟨Y, hY, hVY, hPY, _⟩ := text_ok hcok
          have hT2 := fun W hW => ttext_at q I T Y 0 (by omega) (by omega) hVY W hW
          have hQ2 := fun W hW => parses_at Y q I T 0 (by omega) W hW hPY
          clear hp hVY hPY hcok
          go_wp2_with fail
          refine (hp2 _ S1).mono ?_
          rintro e W20 ⟨rfl, sw⟩
          replace hs1 := Lib.hid (hs1.out.trans sw)
          replace HA := Lib.hid (HA.out.sees sw)
          replace S1 := S1.sees sw
          clear sw
          have D0 := CmdAt.new W20 q I T
          have sw := (Sees.refl W20).alloc (.cells #[.int .i64 q, .string I, .string T] 30)
          replace hs1 := Lib.hid (hs1.out.trans sw)
          replace S1 := S1.sees sw
          replace HA := Lib.hid (HA.out.sees sw)
          replace D0 := Lib.hid D0
          obtain ⟨x0, x1, x2⟩ := D0.out.cs
          clear sw
          go_wp2_with fail
          refine (hT2 _ S1).mono ?_
          rintro e W21 ⟨rfl, sw⟩
          replace hs1 := Lib.hid (hs1.out.trans sw)
          replace HA := Lib.hid (HA.out.sees sw)
          replace S1 := S1.sees sw
          try clear x0 x1 x2
          replace D0 := Lib.hid (D0.out.sees sw)
          obtain ⟨x0, x1, x2⟩ := D0.out.cs
          clear sw
          go_wp2_with fail
          refine (hQ2 _ S1).mono ?_
          rintro e W22 ⟨rfl, sw⟩
          replace hs1 := Lib.hid (hs1.out.trans sw)
          replace HA := Lib.hid (HA.out.sees sw)
          replace S1 := S1.sees sw
          try clear x0 x1 x2
          replace D0 := Lib.hid (D0.out.sees sw)
          obtain ⟨x0, x1, x2⟩ := D0.out.cs
          clear sw
          go_wp2_with fail
          refine (known26 _ S1).mono ?_
          rintro e W23 ⟨rfl, sw⟩
          replace hs1 := Lib.hid (hs1.out.trans sw)
          replace HA := Lib.hid (HA.out.sees sw)
          replace S1 := S1.sees sw
          clear sw
          go_wp2
          go_ret
          exact ⟨rfl, hs1.out⟩
        · have hp2 := fun W hW => parse_at s 0 ⟨#[]⟩ ⟨#[]⟩ er (by omega) hp W hW
          clear hp
          have e1 : (er == 0) = false := beq_eq_false_iff_ne.2 her
          go_wp2_with fail
          refine (hp2 _ S1).mono ?_
          rintro e W20 ⟨rfl, sw⟩
          replace hs1 := Lib.hid (hs1.out.trans sw)
          replace HA := Lib.hid (HA.out.sees sw)
          replace S1 := S1.sees sw
          clear sw
          have D0 := CmdAt.new W20 0 ⟨#[]⟩ ⟨#[]⟩
          have sw := (Sees.refl W20).alloc (.cells #[.int .i64 0, .string ⟨#[]⟩, .string ⟨#[]⟩] 30)
          replace hs1 := Lib.hid (hs1.out.trans sw)
          replace S1 := S1.sees sw
          replace HA := Lib.hid (HA.out.sees sw)
          replace D0 := Lib.hid D0
          obtain ⟨x0, x1, x2⟩ := D0.out.cs
          clear sw
          go_wp2_with fail
          refine (known26 _ S1).mono ?_
          rintro e W23 ⟨rfl, sw⟩
          replace hs1 := Lib.hid (hs1.out.trans sw)
          replace HA := Lib.hid (HA.out.sees sw)
          replace S1 := S1.sees sw
          clear sw
          go_wp2
          go_ret
          exact ⟨rfl, hs1.out⟩
      · have hT1 := fun W hW => ttext_at k id text ⟨#[]⟩ 2 (by omega) (by omega) (textV_no hok) W hW
        clear hok
        go_wp2_with fail
        refine (hT1 _ S1).mono ?_
        rintro e W14 ⟨rfl, sw⟩
        replace hs1 := Lib.hid (hs1.out.trans sw)
        replace HA := Lib.hid (HA.out.sees sw)
        replace S1 := S1.sees sw
        try clear q0 q1 q2
        obtain ⟨q0, q1, q2⟩ := HA.out.cs
        clear sw
        rcases parse_ok s with ⟨q, I, T, hp, hcok, hIs, hTs⟩ | ⟨er, her, hp⟩
        · have hp2 := fun W hW => parse_at s q I T 0 (by omega) hp W hW
          obtain ⟨Y, hY, hVY, hPY, _⟩ := text_ok hcok
          have hT2 := fun W hW => ttext_at q I T Y 0 (by omega) (by omega) hVY W hW
          have hQ2 := fun W hW => parses_at Y q I T 0 (by omega) W hW hPY
          clear hp hVY hPY hcok
          go_wp2_with fail
          refine (hp2 _ S1).mono ?_
          rintro e W20 ⟨rfl, sw⟩
          replace hs1 := Lib.hid (hs1.out.trans sw)
          replace HA := Lib.hid (HA.out.sees sw)
          replace S1 := S1.sees sw
          clear sw
          have D0 := CmdAt.new W20 q I T
          have sw := (Sees.refl W20).alloc (.cells #[.int .i64 q, .string I, .string T] 30)
          replace hs1 := Lib.hid (hs1.out.trans sw)
          replace S1 := S1.sees sw
          replace HA := Lib.hid (HA.out.sees sw)
          replace D0 := Lib.hid D0
          obtain ⟨x0, x1, x2⟩ := D0.out.cs
          clear sw
          go_wp2_with fail
          refine (hT2 _ S1).mono ?_
          rintro e W21 ⟨rfl, sw⟩
          replace hs1 := Lib.hid (hs1.out.trans sw)
          replace HA := Lib.hid (HA.out.sees sw)
          replace S1 := S1.sees sw
          try clear x0 x1 x2
          replace D0 := Lib.hid (D0.out.sees sw)
          obtain ⟨x0, x1, x2⟩ := D0.out.cs
          clear sw
          go_wp2_with fail
          refine (hQ2 _ S1).mono ?_
          rintro e W22 ⟨rfl, sw⟩
          replace hs1 := Lib.hid (hs1.out.trans sw)
          replace HA := Lib.hid (HA.out.sees sw)
          replace S1 := S1.sees sw
          try clear x0 x1 x2
          replace D0 := Lib.hid (D0.out.sees sw)
          obtain ⟨x0, x1, x2⟩ := D0.out.cs
          clear sw
          go_wp2_with fail
          refine (known26 _ S1).mono ?_
          rintro e W23 ⟨rfl, sw⟩
          replace hs1 := Lib.hid (hs1.out.trans sw)
          replace HA := Lib.hid (HA.out.sees sw)
          replace S1 := S1.sees sw
          clear sw
          go_wp2
          go_ret
          exact ⟨rfl, hs1.out⟩
        · have hp2 := fun W hW => parse_at s 0 ⟨#[]⟩ ⟨#[]⟩ er (by omega) hp W hW
          clear hp
          have e1 : (er == 0) = false := beq_eq_false_iff_ne.2 her
          go_wp2_with fail
          refine (hp2 _ S1).mono ?_
          rintro e W20 ⟨rfl, sw⟩
          replace hs1 := Lib.hid (hs1.out.trans sw)
          replace HA := Lib.hid (HA.out.sees sw)
          replace S1 := S1.sees sw
          clear sw
          have D0 := CmdAt.new W20 0 ⟨#[]⟩ ⟨#[]⟩
          have sw := (Sees.refl W20).alloc (.cells #[.int .i64 0, .string ⟨#[]⟩, .string ⟨#[]⟩] 30)
          replace hs1 := Lib.hid (hs1.out.trans sw)
          replace S1 := S1.sees sw
          replace HA := Lib.hid (HA.out.sees sw)
          replace D0 := Lib.hid D0
          obtain ⟨x0, x1, x2⟩ := D0.out.cs
          clear sw
          go_wp2_with fail
          refine (known26 _ S1).mono ?_
          rintro e W23 ⟨rfl, sw⟩
          replace hs1 := Lib.hid (hs1.out.trans sw)
          replace HA := Lib.hid (HA.out.sees sw)
          replace S1 := S1.sees sw
          clear sw
          go_wp2
          go_ret
          exact ⟨rfl, hs1.out⟩

set_option maxRecDepth 100000 in
theorem contract (H : Type) (enc : TypeId × Value → H) (W : World) (base : Nat) (args : Array Value) (ds gs : List (DataW H)) (before : List MemPlace)
    (hval : ∀ (j : Nat) t v, Tryd.f8.params[j]? = some t → args[j]? = some v → Value.okWide Tryd.prog W .any base t v)
    (hW : DataW.Whole enc Tryd.prog Tryd.f8.params.toList Rows.titleHoldsSpec.vars false W args.toList ds gs before) (hL : laidMetH Tryd.prog Rows.titleHoldsRow.laid W) (hsh : W.ShapedOpen Tryd.prog) :
    Calls Tryd.prog 8 args W fun e W' => ∃ v, e = .returned v ∧ Rows.titleHoldsSpec.post enc Tryd.prog Tryd.f8 false true false false W args v W' := by
  have hW' := hW
  obtain ⟨p, q, hA0, hV, rfl, hfz, hnd⟩ := hW
  have hA : DataW.TrodAll enc Tryd.prog W 0 (fun _ => true) true Tryd.f8.params.toList args.toList ds p := hA0
  rw [Tryd.params8] at hA hval
  obtain ⟨v0, vs0, d0, ds0, p0, q0, hargs, rfl, rfl, h0, r0⟩ := trodAll_cons hA
  obtain ⟨v1, vs1, d1, ds1, p1, q1, rfl, rfl, rfl, h1, r1⟩ := trodAll_cons r0
  obtain ⟨rfl, rfl, rfl⟩ := trodAll_nil r1
  obtain rfl : args = #[v0, v1] := by cases args; simp_all
  obtain ⟨ss, rfl, rfl, rfl, xs⟩ := Go.ChangeMaps.open_string Tryd.underlying9 (hval 0 9 v0 rfl rfl) h0
  obtain ⟨kc, ic, tc, rfl, xc, yc⟩ := open_cmd (hval 1 30 v1 rfl rfl) h1
  refine (walk ss kc ic tc W (std_of_laid hL hsh) xs xc yc).mono fun e W' ⟨he, hs⟩ => ?_
  subst he
  exact ⟨_, rfl, law_post (tb := 4) laidOut (by
    rw [Tryd.params8]; intro t ht
    simp only [List.mem_cons, List.not_mem_nil, or_false] at ht
    rcases ht with rfl | rfl <;> exact ⟨by kernel_rfl, of_decide_eq_true (by kernel_rfl)⟩) hW' rfl (fun ds hl => by
    rw [Tryd.params8] at hl
    match ds, hl with
    | [_, _], _ => rfl) (by kernel_rfl) Tryd.underlying4 hs⟩

abbrev startArgs : Array Value := #[.string ⟨#[]⟩, .agg #[.int .i64 0, .string ⟨#[]⟩, .string ⟨#[]⟩]]
noncomputable abbrev start (os : Os) : World := laidWorld os
theorem laid_met (os : Os) : laidMet Tryd.prog Rows.titleHoldsRow.laid ((start os).forCall (fun _ _ => 0) ⟨#[], startArgs, []⟩).memory :=
  laidMet_of_run' 8 (by kernel_rfl) (by kernel_rfl)
theorem reads (os : Os) {H : Type} (enc : TypeId × Value → H) : ∃ x, DataW.whole enc Tryd.prog ((start os).forCall (fun _ _ => 0) ⟨#[], startArgs, []⟩).memory Tryd.f8.params.toList Rows.titleHoldsSpec.vars false startArgs.toList 8 = some x :=
  ⟨([.lit (.string []), .agg [.lit (.int .i64 0), .lit (.string []), .lit (.string [])]], [], []), by kernel_rfl⟩

set_option maxRecDepth 100000 in
theorem lifted (os : Os) (started : os.Started) (H : Type) (enc : TypeId × Value → H) (F : Stop.Interp) :
    ReturnsInHanded {} Tryd.checked os 8 .any ((OpenSpec.ofChange Rows.titleHoldsSpec).preRow enc Tryd.prog Tryd.f8 Rows.titleHoldsRow.domain false Rows.titleHoldsRow.laid) (((OpenSpec.ofChange Rows.titleHoldsSpec).at F).post enc Tryd.prog Tryd.f8 false true false false) := by
  obtain ⟨x, hx⟩ := reads os enc
  refine returnsInHanded_of_row (C := Tryd.checked) (s := OpenSpec.ofChange Rows.titleHoldsSpec) ownK started (by kernel_rfl) Tryd.func8
    (witness_row_at (enc := enc) (C := Tryd.checked) false (start os) startArgs rfl (by kernel_rfl) (by kernel_rfl) (by kernel_rfl)
      (OpenSpec.preRow_of_cond 8 hx (by kernel_rfl) (fun k hk => by cases hk) (by kernel_rfl) (laid_met os))) ?_
  intro W base args ds gs before hval hW _ _ _ hL hsh _
  exact contract H enc W base args ds gs before hval hW hL hsh

theorem said : Rows.TitleHoldsSaid :=
  OpenClaim.holds_of_cond 8 Tryd.f8 rfl rfl rfl rfl rfl rfl rfl ⟨rfl, rfl, rfl, rfl, rfl⟩ rfl rfl rfl rfl rfl (by kernel_rfl) Tryd.func8 (by kernel_rfl)
    (of_decide_eq_true (by kernel_rfl)) (by unfold Func.isWrapper; first | (rw [if_pos (by decide +kernel)]; kernel_rfl) | (rw [if_neg (by decide +kernel)]; exact ⟨rfl, rfl⟩))
    (fun os started H enc _ F => by rw [OpenClaim.pre_eq_preRow]; exact lifted os started H enc F)

theorem plain (f : FuncId) (fn : Func) (hf : Tryd.pinned.checked.prog.funcNamed Rows.titleHoldsRow.func = some f) (hfn : Tryd.pinned.checked.prog.funcs[f]? = some fn) :
    true = Tryd.pinned.checked.prog.looks [] ∧ ∀ (j : Nat) t, fn.params[j]? = some t → Tryd.pinned.checked.prog.wantsStandIn t = false := by
  obtain rfl : f = 8 := Option.some.inj ((show Tryd.prog.funcNamed Rows.titleHoldsRow.func = some 8 by kernel_rfl).symm.trans hf) |>.symm
  obtain rfl : fn = Tryd.f8 := (Option.some.inj (Tryd.func8.symm.trans hfn)).symm
  refine ⟨by kernel_rfl, fun j t ht => ?_⟩
  rw [Tryd.params8] at ht
  have hm := Array.mem_of_getElem? ht
  simp only [List.mem_toArray, List.mem_cons, List.not_mem_nil, or_false] at hm
  rcases hm with rfl | rfl
  · exact (show Tryd.prog.wantsStandIn 9 = false by kernel_rfl)
  · exact (show Tryd.prog.wantsStandIn 30 = false by kernel_rfl)

theorem card : Rows.TitleHoldsCardSaid :=
  Claim7.holds_tied_plain_at .later [] _ _ _ _ said (fun _ h => by cases h) (by kernel_rfl) (fun _ h => by cases h) titleHolds_row_tie rfl ⟨rfl, rfl⟩ (by kernel_rfl) rfl plain (by kernel_rfl)
end titleHolds
end Go.Proofs.YtmmofcfhenjffaaDoor
