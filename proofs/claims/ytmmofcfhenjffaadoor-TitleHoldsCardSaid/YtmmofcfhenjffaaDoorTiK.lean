/- The helpers of the statements of 26: parses, texts, named, link, times. No condition. -/
import Derived.Test.YtmmofcfhenjffaaDoorTiV
namespace Go.Proofs.YtmmofcfhenjffaaDoor
set_option linter.unusedVariables false
set_option linter.unusedSimpArgs false
open Go.RowKit

theorem size_of {s : ByteArray} {l : List UInt8} (h : s.data.toList = l) : s.size = l.length := by rw [Lib.size_eq, h]
theorem mk_of {s : ByteArray} {l : List UInt8} (h : l = s.data.toList) : (⟨l.toArray⟩ : ByteArray) = s := by
  rw [h]
theorem clean_at (s r : ByteArray) (hs : s.size ≤ 1000000) (h : cleanT s.data.toList = r.data.toList) (W : World) :
    Calls Tryd.prog 10 #[.string s] W fun e w' => e = .returned (.string r) ∧ Sees W w' :=
  (clean_any s (by omega) W).mono fun e w' h' => ⟨by rw [h'.1, mk_of h], h'.2⟩
set_option maxHeartbeats 1000000 in
theorem named_at (t : ByteArray) (W : World) : Calls Tryd.prog 20 #[.string t] W fun e w' => e = .returned (cmd 1 ⟨#[]⟩ t) ∧ Sees W w' := by
  have hr := Sees.refl W
  have A0 := CmdAt.new W 0 ⟨#[]⟩ ⟨#[]⟩
  obtain ⟨q0, q1, q2⟩ := A0.cs
  obtain ⟨f0, f1, f2⟩ := A0.fr
  go_enter Tryd.func20, Tryd.ntmps20
  go_wp2
  have hE := CmdAt.new W 1 ⟨#[]⟩ t
  obtain ⟨c0, c1, c2⟩ := hE.cs
  refine bodyPost_ret_by (v := cmd 1 ⟨#[]⟩ t) (by simp [results, Tryd.results20, go_sem, c0, c1, c2]) rfl ⟨rfl, hr.alloc _⟩
set_option maxHeartbeats 1000000 in
theorem link_at (i t : ByteArray) (W : World) : Calls Tryd.prog 17 #[.string i, .string t] W fun e w' => e = .returned (cmd 2 i t) ∧ Sees W w' := by
  have hr := Sees.refl W
  have A0 := CmdAt.new W 0 ⟨#[]⟩ ⟨#[]⟩
  obtain ⟨q0, q1, q2⟩ := A0.cs
  obtain ⟨f0, f1, f2⟩ := A0.fr
  go_enter Tryd.func17, Tryd.ntmps17
  go_wp2
  have hE := CmdAt.new W 2 i t
  obtain ⟨c0, c1, c2⟩ := hE.cs
  refine bodyPost_ret_by (v := cmd 2 i t) (by simp [results, Tryd.results17, go_sem, c0, c1, c2]) rfl ⟨rfl, hr.alloc _⟩
set_option maxHeartbeats 1000000 in
theorem times_at (t : ByteArray) (n : Nat) (ht : t.size ≤ 3) (hn : n ≤ 1000) (W : World) :
    Calls Tryd.prog 18 #[.string t, .int .i64 (n : Int)] W fun e w' => e = .returned (.string ⟨((List.replicate n t.data.toList).flatten).toArray⟩) ∧ Sees W w' := by
  have hr := Sees.refl W
  obtain ⟨V, hV⟩ : ∃ V : ByteArray, V = ⟨((List.replicate n t.data.toList).flatten).toArray⟩ := ⟨_, rfl⟩
  rw [← hV]
  replace hV := Lib.hid hV
  go_enter Tryd.func18, Tryd.ntmps18
  go_wp2
  go_loop [5, 6] (fun x y => ∃ (k : Nat) (O : ByteArray), k ≤ n ∧ x = .string O ∧ y = .int .i64 k ∧ O.size ≤ 3 * k ∧ RowKit.Hid (O.data.toList = (List.replicate k t.data.toList).flatten)) (fun _ y => n - (intOf y).toNat)
  case atStart => exact ⟨0, ⟨#[]⟩, by omega, rfl, rfl, by decide, Lib.hid rfl⟩
  case round =>
    obtain ⟨k, O, hk, rfl, rfl, hO, hm⟩ := hrel
    by_cases hlt : k < n
    · have hO2 : RowKit.Hid ((O ++ t).size ≤ 3 * (k + 1)) := Lib.hid (by rw [ByteArray.size_append]; omega)
      have hm2 : RowKit.Hid ((O ++ t).data.toList = (List.replicate (k + 1) t.data.toList).flatten) := Lib.hid (by
        rw [ByteArray.data_append, Array.toList_append, hm.out, List.replicate_succ', List.flatten_append]
        simp)
      go_wp2
      go_round
      case rel => exact ⟨k + 1, O ++ t, by omega, rfl, by go_num, hO2.out, hm2⟩
      case measure => simp [intOf]; omega
    · obtain rfl : k = n := by omega
      have hOV : RowKit.Hid (O = V) := Lib.hid (by rw [hV.out]; exact (mk_of hm.out.symm).symm)
      go_wp2
      go_ret
      exact ⟨by rw [← hOV.out]; rfl, hr⟩
theorem textV_ok {k : Int} {id text want : ByteArray} (h : cmdOk k id.data.toList text.data.toList) (ht : cmdText k id.data.toList text.data.toList = want.data.toList) : textV k id text = .tuple #[.string want, .int .i64 0] := by
  unfold textV
  rw [if_pos h, mk_of ht]
theorem textV_no {k : Int} {id text : ByteArray} (h : ¬ cmdOk k id.data.toList text.data.toList) : textV k id text = .tuple #[.string ⟨#[]⟩, .int .i64 2] := by
  unfold textV
  rw [if_neg h]
set_option maxHeartbeats 4000000 in
set_option maxRecDepth 100000 in
theorem texts_at (k : Int) (id text want : ByteArray) (no : Int) (h1 : id.size ≤ 1000000) (h2 : text.size ≤ 1000000) (W : World) (hw : Std W) (h : textV k id text = .tuple #[.string want, .int .i64 no]) :
    Calls Tryd.prog 15 #[cmd k id text, .string want, .int .i64 no] W fun e w' => e = .returned (.bool true) ∧ Sees W w' := by
  have hr := Sees.refl W
  have A0 := CmdAt.new W k id text
  obtain ⟨q0, q1, q2⟩ := A0.cs
  have hs1 := hr.alloc (.cells #[.int .i64 k, .string id, .string text] 30)
  have hc := ttext_any k id text h1 h2 _ (hw.sees hs1)
  rw [h] at hc
  replace h := Lib.hid h
  go_enter Tryd.func15, Tryd.ntmps15
  go_wp2_with fail
  refine hc.mono ?_
  rintro e W1 ⟨rfl, s1⟩
  go_wp2
  go_ret
  exact ⟨rfl, hs1.trans s1⟩
set_option maxHeartbeats 4000000 in
set_option maxRecDepth 100000 in
theorem parses_at (s : ByteArray) (k : Int) (id text : ByteArray) (no : Int) (hs : s.size ≤ 1000000) (W : World) (hw : Std W) (h : parseT s.data.toList = (k, id.data.toList, text.data.toList, no)) :
    Calls Tryd.prog 13 #[.string s, cmd k id text, .int .i64 no] W fun e w' => e = .returned (.bool true) ∧ Sees W w' := by
  have hr := Sees.refl W
  have A0 := CmdAt.new W k id text
  have hs1 := hr.alloc (.cells #[.int .i64 k, .string id, .string text] 30)
  have hc := parse_any s hs _ (hw.sees hs1)
  rw [h] at hc
  replace h := Lib.hid h
  go_enter Tryd.func13, Tryd.ntmps13
  go_wp2_with fail
  refine hc.mono ?_
  rintro e W1 ⟨rfl, s1⟩
  simp only [saidV, mk_of rfl]
  have HA1 := Lib.hid (A0.sees s1)
  have S1 := hs1.trans s1
  obtain ⟨x0, x1, x2⟩ := (HA1.out.sees ((Sees.refl W1).alloc (.cells #[.int .i64 k, .string id, .string text] 30))).cs
  have B := CmdAt.new W1 k id text
  obtain ⟨y0, y1, y2⟩ := B.cs
  go_wp2
  go_ret
  exact ⟨rfl, S1.alloc _⟩
theorem len_rep (n : Nat) (l : List UInt8) : ((List.replicate n l).flatten).length = n * l.length := by
  rw [List.length_flatten, List.map_replicate, List.sum_replicate_nat]
theorem times_of (t : ByteArray) (n : Nat) (r : Nat) (ht : t.size ≤ 3) (hn : n ≤ 1000) (h : (cleanT (List.replicate n t.data.toList).flatten).length = r) (W : World) :
    ∃ X C : ByteArray, X.size ≤ 1000000 ∧ C.size = r ∧ cleanT X.data.toList = C.data.toList ∧ (∀ W, Calls Tryd.prog 18 #[.string t, .int .i64 (n : Int)] W fun e w' => e = .returned (.string X) ∧ Sees W w') :=
  ⟨⟨((List.replicate n t.data.toList).flatten).toArray⟩, ⟨(cleanT (List.replicate n t.data.toList).flatten).toArray⟩, by
    rw [Lib.size_eq]
    simp only [len_rep]
    rw [← Lib.size_eq]
    have := Nat.mul_le_mul hn ht
    omega, by rw [Lib.size_eq]; exact h, rfl, fun W => times_at t n ht hn W⟩
set_option maxHeartbeats 4000000 in
set_option maxRecDepth 100000 in
theorem known26 (w : World) (hw : Std w) : Calls Tryd.prog 9 #[] w fun e w' => e = .returned (.bool true) ∧ Sees w w' := by
  have hr := Sees.refl w
  obtain ⟨X1, C1, hX1, hC1, hXC1, ht1⟩ := times_of ⟨#[120]⟩ 300 256 (by decide) (by decide) (by decide +kernel) w
  obtain ⟨X2, C2, hX2, hC2, hXC2, ht2⟩ := times_of ⟨#[228, 184, 173]⟩ 86 255 (by decide) (by decide) (by decide +kernel) w
  replace hXC1 := Lib.hid hXC1
  replace hXC2 := Lib.hid hXC2
  replace hC1 : (C1.size : Int) = 256 := by omega
  replace hC2 : (C2.size : Int) = 255 := by omega
  have hN0 := CmdAt.new w 0 ⟨#[]⟩ ⟨#[]⟩
  have S1 := hr.alloc (.cells #[.int .i64 0, .string ⟨#[]⟩, .string ⟨#[]⟩] 30)
  have hP0 := CmdAt.new (w.alloc (.cells #[.int .i64 0, .string ⟨#[]⟩, .string ⟨#[]⟩] 30)) 3 ⟨#[]⟩ ⟨#[]⟩
  rw [show (w.alloc (.cells #[.int .i64 0, .string ⟨#[]⟩, .string ⟨#[]⟩] 30)).heap.size = w.heap.size + 1 from Array.size_push _] at hP0
  have S2 := (Sees.refl (w.alloc (.cells #[.int .i64 0, .string ⟨#[]⟩, .string ⟨#[]⟩] 30))).alloc (.cells #[.int .i64 3, .string ⟨#[]⟩, .string ⟨#[]⟩] 30)
  have HN := Lib.hid (hN0.sees S2)
  have HP := Lib.hid hP0
  have HS := Lib.hid (S1.trans S2)
  clear S1 S2 hN0 hP0 hr
  go_enter Tryd.func9, Tryd.ntmps9
  go_wp2_with fail
  refine (clean_at ⟨#[97, 10, 98]⟩ ⟨#[97, 98]⟩ (by decide) (by decide +kernel) _).mono ?_
  rintro e W ⟨rfl, s⟩
  replace HN := Lib.hid (HN.out.sees s)
  replace HP := Lib.hid (HP.out.sees s)
  replace HS := Lib.hid (HS.out.trans s)
  clear s
  try clear x0 x1 x2 y0 y1 y2
  obtain ⟨x0, x1, x2⟩ := HN.out.cs
  obtain ⟨y0, y1, y2⟩ := HP.out.cs
  go_wp2_with fail
  refine (clean_at ⟨#[255, 99]⟩ ⟨#[99]⟩ (by decide) (by decide +kernel) _).mono ?_
  rintro e W ⟨rfl, s⟩
  replace HN := Lib.hid (HN.out.sees s)
  replace HP := Lib.hid (HP.out.sees s)
  replace HS := Lib.hid (HS.out.trans s)
  clear s
  try clear x0 x1 x2 y0 y1 y2
  obtain ⟨x0, x1, x2⟩ := HN.out.cs
  obtain ⟨y0, y1, y2⟩ := HP.out.cs
  go_wp2_with fail
  refine (ht1 _).mono ?_
  rintro e W ⟨rfl, s⟩
  replace HN := Lib.hid (HN.out.sees s)
  replace HP := Lib.hid (HP.out.sees s)
  replace HS := Lib.hid (HS.out.trans s)
  clear s
  try clear x0 x1 x2 y0 y1 y2
  obtain ⟨x0, x1, x2⟩ := HN.out.cs
  obtain ⟨y0, y1, y2⟩ := HP.out.cs
  go_wp2_with fail
  refine (clean_at X1 C1 hX1 hXC1.out _).mono ?_
  rintro e W ⟨rfl, s⟩
  replace HN := Lib.hid (HN.out.sees s)
  replace HP := Lib.hid (HP.out.sees s)
  replace HS := Lib.hid (HS.out.trans s)
  clear s
  try clear x0 x1 x2 y0 y1 y2
  obtain ⟨x0, x1, x2⟩ := HN.out.cs
  obtain ⟨y0, y1, y2⟩ := HP.out.cs
  go_wp2_with fail
  refine (ht2 _).mono ?_
  rintro e W ⟨rfl, s⟩
  replace HN := Lib.hid (HN.out.sees s)
  replace HP := Lib.hid (HP.out.sees s)
  replace HS := Lib.hid (HS.out.trans s)
  clear s
  try clear x0 x1 x2 y0 y1 y2
  obtain ⟨x0, x1, x2⟩ := HN.out.cs
  obtain ⟨y0, y1, y2⟩ := HP.out.cs
  go_wp2_with fail
  refine (clean_at X2 C2 hX2 hXC2.out _).mono ?_
  rintro e W ⟨rfl, s⟩
  replace HN := Lib.hid (HN.out.sees s)
  replace HP := Lib.hid (HP.out.sees s)
  replace HS := Lib.hid (HS.out.trans s)
  clear s
  try clear x0 x1 x2 y0 y1 y2
  obtain ⟨x0, x1, x2⟩ := HN.out.cs
  obtain ⟨y0, y1, y2⟩ := HP.out.cs
  go_wp2_with fail
  refine (named_at ⟨#[97, 98, 99]⟩ _).mono ?_
  rintro e W ⟨rfl, s⟩
  replace HN := Lib.hid (HN.out.sees s)
  replace HP := Lib.hid (HP.out.sees s)
  replace HS := Lib.hid (HS.out.trans s)
  clear s
  try clear x0 x1 x2 y0 y1 y2
  obtain ⟨x0, x1, x2⟩ := HN.out.cs
  obtain ⟨y0, y1, y2⟩ := HP.out.cs
  go_wp2_with fail
  refine (parses_at ⟨#[48, 59, 97, 98, 99]⟩ 1 ⟨#[]⟩ ⟨#[97, 98, 99]⟩ 0 (by decide) _ (hw.sees HS.out) (by decide +kernel)).mono ?_
  rintro e W ⟨rfl, s⟩
  replace HN := Lib.hid (HN.out.sees s)
  replace HP := Lib.hid (HP.out.sees s)
  replace HS := Lib.hid (HS.out.trans s)
  clear s
  try clear x0 x1 x2 y0 y1 y2
  obtain ⟨x0, x1, x2⟩ := HN.out.cs
  obtain ⟨y0, y1, y2⟩ := HP.out.cs
  go_wp2_with fail
  refine (named_at ⟨#[]⟩ _).mono ?_
  rintro e W ⟨rfl, s⟩
  replace HN := Lib.hid (HN.out.sees s)
  replace HP := Lib.hid (HP.out.sees s)
  replace HS := Lib.hid (HS.out.trans s)
  clear s
  try clear x0 x1 x2 y0 y1 y2
  obtain ⟨x0, x1, x2⟩ := HN.out.cs
  obtain ⟨y0, y1, y2⟩ := HP.out.cs
  go_wp2_with fail
  refine (parses_at ⟨#[48, 50, 59]⟩ 1 ⟨#[]⟩ ⟨#[]⟩ 0 (by decide) _ (hw.sees HS.out) (by decide +kernel)).mono ?_
  rintro e W ⟨rfl, s⟩
  replace HN := Lib.hid (HN.out.sees s)
  replace HP := Lib.hid (HP.out.sees s)
  replace HS := Lib.hid (HS.out.trans s)
  clear s
  try clear x0 x1 x2 y0 y1 y2
  obtain ⟨x0, x1, x2⟩ := HN.out.cs
  obtain ⟨y0, y1, y2⟩ := HP.out.cs
  go_wp2_with fail
  refine (parses_at ⟨#[56, 59, 59]⟩ 3 ⟨#[]⟩ ⟨#[]⟩ 0 (by decide) _ (hw.sees HS.out) (by decide +kernel)).mono ?_
  rintro e W ⟨rfl, s⟩
  replace HN := Lib.hid (HN.out.sees s)
  replace HP := Lib.hid (HP.out.sees s)
  replace HS := Lib.hid (HS.out.trans s)
  clear s
  try clear x0 x1 x2 y0 y1 y2
  obtain ⟨x0, x1, x2⟩ := HN.out.cs
  obtain ⟨y0, y1, y2⟩ := HP.out.cs
  go_wp2_with fail
  refine (link_at ⟨#[113]⟩ ⟨#[104, 116, 116, 112, 58, 47, 47, 120]⟩ _).mono ?_
  rintro e W ⟨rfl, s⟩
  replace HN := Lib.hid (HN.out.sees s)
  replace HP := Lib.hid (HP.out.sees s)
  replace HS := Lib.hid (HS.out.trans s)
  clear s
  try clear x0 x1 x2 y0 y1 y2
  obtain ⟨x0, x1, x2⟩ := HN.out.cs
  obtain ⟨y0, y1, y2⟩ := HP.out.cs
  go_wp2_with fail
  refine (parses_at ⟨#[56, 59, 97, 61, 98, 58, 105, 100, 61, 113, 59, 104, 116, 116, 112, 58, 47, 47, 120]⟩ 2 ⟨#[113]⟩ ⟨#[104, 116, 116, 112, 58, 47, 47, 120]⟩ 0 (by decide) _ (hw.sees HS.out) (by decide +kernel)).mono ?_
  rintro e W ⟨rfl, s⟩
  replace HN := Lib.hid (HN.out.sees s)
  replace HP := Lib.hid (HP.out.sees s)
  replace HS := Lib.hid (HS.out.trans s)
  clear s
  try clear x0 x1 x2 y0 y1 y2
  obtain ⟨x0, x1, x2⟩ := HN.out.cs
  obtain ⟨y0, y1, y2⟩ := HP.out.cs
  go_wp2_with fail
  refine (parses_at ⟨#[56, 59, 105, 100, 61, 113, 59]⟩ 3 ⟨#[]⟩ ⟨#[]⟩ 0 (by decide) _ (hw.sees HS.out) (by decide +kernel)).mono ?_
  rintro e W ⟨rfl, s⟩
  replace HN := Lib.hid (HN.out.sees s)
  replace HP := Lib.hid (HP.out.sees s)
  replace HS := Lib.hid (HS.out.trans s)
  clear s
  try clear x0 x1 x2 y0 y1 y2
  obtain ⟨x0, x1, x2⟩ := HN.out.cs
  obtain ⟨y0, y1, y2⟩ := HP.out.cs
  go_wp2_with fail
  refine (link_at ⟨#[113]⟩ ⟨#[117]⟩ _).mono ?_
  rintro e W ⟨rfl, s⟩
  replace HN := Lib.hid (HN.out.sees s)
  replace HP := Lib.hid (HP.out.sees s)
  replace HS := Lib.hid (HS.out.trans s)
  clear s
  try clear x0 x1 x2 y0 y1 y2
  obtain ⟨x0, x1, x2⟩ := HN.out.cs
  obtain ⟨y0, y1, y2⟩ := HP.out.cs
  go_wp2_with fail
  refine (parses_at ⟨#[56, 59, 105, 100, 61, 113, 58, 105, 100, 61, 114, 59, 117]⟩ 2 ⟨#[113]⟩ ⟨#[117]⟩ 0 (by decide) _ (hw.sees HS.out) (by decide +kernel)).mono ?_
  rintro e W ⟨rfl, s⟩
  replace HN := Lib.hid (HN.out.sees s)
  replace HP := Lib.hid (HP.out.sees s)
  replace HS := Lib.hid (HS.out.trans s)
  clear s
  try clear x0 x1 x2 y0 y1 y2
  obtain ⟨x0, x1, x2⟩ := HN.out.cs
  obtain ⟨y0, y1, y2⟩ := HP.out.cs
  go_wp2_with fail
  refine (parses_at ⟨#[97, 98, 99]⟩ 0 ⟨#[]⟩ ⟨#[]⟩ 6 (by decide) _ (hw.sees HS.out) (by decide +kernel)).mono ?_
  rintro e W ⟨rfl, s⟩
  replace HN := Lib.hid (HN.out.sees s)
  replace HP := Lib.hid (HP.out.sees s)
  replace HS := Lib.hid (HS.out.trans s)
  clear s
  try clear x0 x1 x2 y0 y1 y2
  obtain ⟨x0, x1, x2⟩ := HN.out.cs
  obtain ⟨y0, y1, y2⟩ := HP.out.cs
  go_wp2_with fail
  refine (parses_at ⟨#[59, 97]⟩ 0 ⟨#[]⟩ ⟨#[]⟩ 6 (by decide) _ (hw.sees HS.out) (by decide +kernel)).mono ?_
  rintro e W ⟨rfl, s⟩
  replace HN := Lib.hid (HN.out.sees s)
  replace HP := Lib.hid (HP.out.sees s)
  replace HS := Lib.hid (HS.out.trans s)
  clear s
  try clear x0 x1 x2 y0 y1 y2
  obtain ⟨x0, x1, x2⟩ := HN.out.cs
  obtain ⟨y0, y1, y2⟩ := HP.out.cs
  go_wp2_with fail
  refine (parses_at ⟨#[49, 59, 97]⟩ 0 ⟨#[]⟩ ⟨#[]⟩ 9 (by decide) _ (hw.sees HS.out) (by decide +kernel)).mono ?_
  rintro e W ⟨rfl, s⟩
  replace HN := Lib.hid (HN.out.sees s)
  replace HP := Lib.hid (HP.out.sees s)
  replace HS := Lib.hid (HS.out.trans s)
  clear s
  try clear x0 x1 x2 y0 y1 y2
  obtain ⟨x0, x1, x2⟩ := HN.out.cs
  obtain ⟨y0, y1, y2⟩ := HP.out.cs
  go_wp2_with fail
  refine (parses_at ⟨#[56, 59, 120]⟩ 0 ⟨#[]⟩ ⟨#[]⟩ 6 (by decide) _ (hw.sees HS.out) (by decide +kernel)).mono ?_
  rintro e W ⟨rfl, s⟩
  replace HN := Lib.hid (HN.out.sees s)
  replace HP := Lib.hid (HP.out.sees s)
  replace HS := Lib.hid (HS.out.trans s)
  clear s
  try clear x0 x1 x2 y0 y1 y2
  obtain ⟨x0, x1, x2⟩ := HN.out.cs
  obtain ⟨y0, y1, y2⟩ := HP.out.cs
  go_wp2_with fail
  refine (parses_at ⟨#[56, 59, 59, 97, 32, 98]⟩ 0 ⟨#[]⟩ ⟨#[]⟩ 6 (by decide) _ (hw.sees HS.out) (by decide +kernel)).mono ?_
  rintro e W ⟨rfl, s⟩
  replace HN := Lib.hid (HN.out.sees s)
  replace HP := Lib.hid (HP.out.sees s)
  replace HS := Lib.hid (HS.out.trans s)
  clear s
  try clear x0 x1 x2 y0 y1 y2
  obtain ⟨x0, x1, x2⟩ := HN.out.cs
  obtain ⟨y0, y1, y2⟩ := HP.out.cs
  go_wp2_with fail
  refine (named_at ⟨#[97, 98, 99]⟩ _).mono ?_
  rintro e W ⟨rfl, s⟩
  replace HN := Lib.hid (HN.out.sees s)
  replace HP := Lib.hid (HP.out.sees s)
  replace HS := Lib.hid (HS.out.trans s)
  clear s
  try clear x0 x1 x2 y0 y1 y2
  obtain ⟨x0, x1, x2⟩ := HN.out.cs
  obtain ⟨y0, y1, y2⟩ := HP.out.cs
  go_wp2_with fail
  refine (texts_at 1 ⟨#[]⟩ ⟨#[97, 98, 99]⟩ ⟨#[50, 59, 97, 98, 99]⟩ 0 (by decide) (by decide) _ (hw.sees HS.out) (textV_ok (by decide +kernel) (by decide +kernel))).mono ?_
  rintro e W ⟨rfl, s⟩
  replace HN := Lib.hid (HN.out.sees s)
  replace HP := Lib.hid (HP.out.sees s)
  replace HS := Lib.hid (HS.out.trans s)
  clear s
  try clear x0 x1 x2 y0 y1 y2
  obtain ⟨x0, x1, x2⟩ := HN.out.cs
  obtain ⟨y0, y1, y2⟩ := HP.out.cs
  go_wp2_with fail
  refine (link_at ⟨#[113]⟩ ⟨#[117]⟩ _).mono ?_
  rintro e W ⟨rfl, s⟩
  replace HN := Lib.hid (HN.out.sees s)
  replace HP := Lib.hid (HP.out.sees s)
  replace HS := Lib.hid (HS.out.trans s)
  clear s
  try clear x0 x1 x2 y0 y1 y2
  obtain ⟨x0, x1, x2⟩ := HN.out.cs
  obtain ⟨y0, y1, y2⟩ := HP.out.cs
  go_wp2_with fail
  refine (texts_at 2 ⟨#[113]⟩ ⟨#[117]⟩ ⟨#[56, 59, 105, 100, 61, 113, 59, 117]⟩ 0 (by decide) (by decide) _ (hw.sees HS.out) (textV_ok (by decide +kernel) (by decide +kernel))).mono ?_
  rintro e W ⟨rfl, s⟩
  replace HN := Lib.hid (HN.out.sees s)
  replace HP := Lib.hid (HP.out.sees s)
  replace HS := Lib.hid (HS.out.trans s)
  clear s
  try clear x0 x1 x2 y0 y1 y2
  obtain ⟨x0, x1, x2⟩ := HN.out.cs
  obtain ⟨y0, y1, y2⟩ := HP.out.cs
  go_wp2_with fail
  refine (texts_at 3 ⟨#[]⟩ ⟨#[]⟩ ⟨#[56, 59, 59]⟩ 0 (by decide) (by decide) _ (hw.sees HS.out) (textV_ok (by decide +kernel) (by decide +kernel))).mono ?_
  rintro e W ⟨rfl, s⟩
  replace HN := Lib.hid (HN.out.sees s)
  replace HP := Lib.hid (HP.out.sees s)
  replace HS := Lib.hid (HS.out.trans s)
  clear s
  try clear x0 x1 x2 y0 y1 y2
  obtain ⟨x0, x1, x2⟩ := HN.out.cs
  obtain ⟨y0, y1, y2⟩ := HP.out.cs
  go_wp2_with fail
  refine (named_at ⟨#[97, 10]⟩ _).mono ?_
  rintro e W ⟨rfl, s⟩
  replace HN := Lib.hid (HN.out.sees s)
  replace HP := Lib.hid (HP.out.sees s)
  replace HS := Lib.hid (HS.out.trans s)
  clear s
  try clear x0 x1 x2 y0 y1 y2
  obtain ⟨x0, x1, x2⟩ := HN.out.cs
  obtain ⟨y0, y1, y2⟩ := HP.out.cs
  go_wp2_with fail
  refine (texts_at 1 ⟨#[]⟩ ⟨#[97, 10]⟩ ⟨#[]⟩ 2 (by decide) (by decide) _ (hw.sees HS.out) (textV_no (by decide +kernel))).mono ?_
  rintro e W ⟨rfl, s⟩
  replace HN := Lib.hid (HN.out.sees s)
  replace HP := Lib.hid (HP.out.sees s)
  replace HS := Lib.hid (HS.out.trans s)
  clear s
  try clear x0 x1 x2 y0 y1 y2
  obtain ⟨x0, x1, x2⟩ := HN.out.cs
  obtain ⟨y0, y1, y2⟩ := HP.out.cs
  go_wp2_with fail
  refine (link_at ⟨#[]⟩ ⟨#[]⟩ _).mono ?_
  rintro e W ⟨rfl, s⟩
  replace HN := Lib.hid (HN.out.sees s)
  replace HP := Lib.hid (HP.out.sees s)
  replace HS := Lib.hid (HS.out.trans s)
  clear s
  try clear x0 x1 x2 y0 y1 y2
  obtain ⟨x0, x1, x2⟩ := HN.out.cs
  obtain ⟨y0, y1, y2⟩ := HP.out.cs
  go_wp2_with fail
  refine (texts_at 2 ⟨#[]⟩ ⟨#[]⟩ ⟨#[]⟩ 2 (by decide) (by decide) _ (hw.sees HS.out) (textV_no (by decide +kernel))).mono ?_
  rintro e W ⟨rfl, s⟩
  replace HN := Lib.hid (HN.out.sees s)
  replace HP := Lib.hid (HP.out.sees s)
  replace HS := Lib.hid (HS.out.trans s)
  clear s
  try clear x0 x1 x2 y0 y1 y2
  obtain ⟨x0, x1, x2⟩ := HN.out.cs
  obtain ⟨y0, y1, y2⟩ := HP.out.cs
  go_wp2
  go_ret
  exact ⟨rfl, HS.out⟩
end Go.Proofs.YtmmofcfhenjffaaDoor
