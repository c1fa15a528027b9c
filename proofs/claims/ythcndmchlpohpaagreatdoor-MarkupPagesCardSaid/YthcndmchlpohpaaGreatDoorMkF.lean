/- What the library's functions ask of a world, and what they give (48). markup's escaped: strings.ContainsRune beyond ASCII; a byte written to a builder (48). markup's escaped: strings.ContainsRune beyond ASCII (48). No condition. -/
import Derived.Test.YthcndmchlpohpaaGreatDoorMkC
import Derived.Stop.LaidErr
import Derived.Lib.SmallJoins
import Derived.Lib.AtoiErrMem
import Derived.Lib.AppendIntMem
import Derived.Lib.LaidTab
import Derived.Lib.RuneLoops
import Derived.Lib.MapLaws
import Derived.Lib.FrozenHead2
import Derived.WalkMore
import Derived.BigQuiet
import Derived.Lib.QuietBelow
import Derived.Deep.CutRange
namespace Go.Proofs.YthcndmchlpohpaaGreatDoor
set_option linter.unusedVariables false
set_option linter.unusedSimpArgs false
open Go.RowKit Go.Shelf
attribute [local go_sem] Oper.semAt_some

/-- What the library's variables hold, and the program's tables. -/
structure Sd (w : World) : Prop where
  t : Tabs w
  m : ∃ m, w.cell? ⟨4, 0, none⟩ = some (.int .i64 m)
  es : ∃ t p, w.cell? ⟨6, 0, none⟩ = some (.iface t p)
  er : ∃ t p, w.cell? ⟨7, 0, none⟩ = some (.iface t p)
  tab : Lib.TabIs Tryz.prog w "internal/strconv.uint64pow10" .u64 Lib.pow10Tab
  ut : Lib.Utf8Tabs 2 3 w
theorem gTab : Tryz.prog.globalNamed "internal/strconv.uint64pow10" = some 5 := by kernel_rfl
theorem Sd.sees {w W : World} (h : Sd w) (hs : Sees w W) : Sd W := by
  obtain ⟨h0, ⟨m, h1⟩, ⟨t, p, h2⟩, ⟨t', p', h3⟩, h4, h5⟩ := h
  exact ⟨h0.sees hs, ⟨m, hs.cell h1⟩, ⟨t, p, hs.cell h2⟩, ⟨t', p', hs.cell h3⟩, Joins.tab_stays gTab h4 hs.below (Nat.le_refl _), Utf8Tabs_below h5 hs.below⟩

theorem itoa_dec : ∀ n : Fin 256, Lib.itoa ((n.val : Nat) : Int) = decN n.val := by decide +kernel
theorem itoa_any (n : Nat) (h : n < 256) (w : World) (hw : Sd w) :
    Calls Tryz.prog 44 #[.int .i64 (n : Int)] w fun e w' => e = .returned (.string (strL (decN n))) ∧ Sees w w' :=
  (Any.strconv_Itoa Tryz.laysM171 (n : Int) (by omega) (by omega) w hw.tab).mono fun e w' ⟨he, k, os, hw'⟩ => ⟨by rw [he, itoa_dec ⟨n, h⟩]; rfl, by rw [hw']; exact Lib.below_grow _ w (Nat.le_refl _) k os⟩
theorem cut_any (s : ByteArray) (hs : s.size < 4294967281) (b : UInt8) (w : World) (hw : Sd w) :
    Calls Tryz.prog 47 #[.string s, .string ⟨#[b]⟩] w fun e w' => e = .returned (.tuple #[.string ⟨(Lib.cut s.data.toList [b]).1.toArray⟩, .string ⟨(Lib.cut s.data.toList [b]).2.1.toArray⟩, .bool (Lib.cut s.data.toList [b]).2.2]) ∧ Sees w w' := by
  obtain ⟨m, h1⟩ := hw.m
  exact (Any.strings_Cut Tryz.lays145 s ⟨#[b]⟩ m w hs h1).mono fun e w' ⟨he, n, hw'⟩ => ⟨he, by rw [hw']; exact below_drewN (Below.refl _ w) n⟩
theorem cutp_any (s p : ByteArray) (w : World) :
    Calls Tryz.prog 75 #[.string s, .string p] w fun e w' => e = .returned (.tuple #[.string ⟨(Lib.trimPrefix s.data.toList p.data.toList).toArray⟩, .bool (Lib.hasPrefix s.data.toList p.data.toList)]) ∧ w' = w :=
  Any.strings_CutPrefix Tryz.lays103 s p w
theorem cuts_any (s p : ByteArray) (w : World) (hs : s.size ≤ 9223372036854775807) :
    Calls Tryz.prog 27 #[.string s, .string p] w fun e w' => e = .returned (.tuple #[.string ⟨(Lib.trimSuffix s.data.toList p.data.toList).toArray⟩, .bool (Lib.hasSuffix s.data.toList p.data.toList)]) ∧ w' = w :=
  Any.strings_CutSuffix Tryz.lays104 s p w hs
theorem ixb_any (s : ByteArray) (c : Int) (w : World) :
    Calls Tryz.prog 40 #[.string s, .int .u8 c] w fun e w' => e = .returned (.int .i64 (Lib.indexByte s.data.toList c.toNat.toUInt8)) ∧ w' = w :=
  Any.strings_IndexByte Tryz.lays137 s c w
theorem rune_any (s : ByteArray) (w : World) (hw : Sd w) :
    Calls Tryz.prog 49 #[.string s] w fun e w' => e = .returned (.tuple #[.int .i32 (Lib.decodeGo s).1, .int .i64 (Lib.decodeGo s).2]) ∧ Sees w w' :=
  Any.utf8_DecodeRuneInString Tryz.lays197 s w hw.ut
/-- A numeral's number, or an error. -/
def IsAtoi (s : ByteArray) (v : Int) (ev : Value) : Prop :=
  (Lib.atoiAll s.data.toList = .ok v ∧ ev = .nilIface) ∨ ((∀ u, Lib.atoiAll s.data.toList ≠ .ok u) ∧ ∃ t p, ev = .iface t p)
theorem atoi_any (s : ByteArray) (hs : s.size ≤ 18) (w : World) (hw : Sd w) :
    Calls Tryz.prog 77 #[.string s] w fun e w' => ∃ ev, e = .returned (.tuple #[.int .i64 ((Lib.atoi s.data.toList).getD 0), ev]) ∧ (ev = .nilIface ∨ ∃ t p, ev = .iface t p) ∧ Sees w w' := by
  obtain ⟨t, p, h2⟩ := hw.es
  cases h : Lib.atoi s.data.toList with
  | some v =>
    refine (Any.strconv_Atoi Tryz.lays172 s v hs h w).mono fun e w' ⟨he, t, hw'⟩ => ⟨_, he, .inl rfl, by rw [hw']; exact Lib.bytesWorld_below _ _ _⟩
  | none =>
    exact (Any.strconv_Atoi_err Tryz.laysC172 s hs h _ w h2 (.inr ⟨_, _, rfl⟩)).mono fun e w' ⟨N, he, _, _, hb⟩ => ⟨_, he, .inr ⟨_, _, rfl⟩, hb⟩
theorem validrune_any (r : Int) (w : World) : Calls Tryz.prog 94 #[.int .i32 r] w fun e w' => ∃ b : Bool, e = .returned (.bool b) ∧ w' = w := by
  refine (Any.utf8_ValidRune Tryz.lays119 r w).mono ?_
  rintro e w' ⟨rfl, rfl⟩
  exact ⟨_, rfl, rfl⟩
end Go.Proofs.YthcndmchlpohpaaGreatDoor

namespace Go.Proofs.YthcndmchlpohpaaGreatDoor
set_option linter.unusedVariables false
set_option linter.unusedSimpArgs false
open Go.RowKit Go.Shelf
attribute [local go_sem] Oper.semAt_some

set_option maxHeartbeats 4000000 in
set_option maxRecDepth 100000 in
theorem write_byte (B b : Nat) (bs : List Value) (c : Int) (w : World) (h : Lib.IsBuilderF 80 5 B b bs w) (hlen : bs.length + 1 ≤ 140737488355328) (hBw : B ≤ w.heap.size) :
    Calls Tryz.prog 51 #[.pointer (some ⟨b, 0, none⟩), .int .u8 c] w fun e w' => e = .returned .nilIface ∧ (Lib.BuilderAtF 80 5 B b (.pointer (some ⟨b, 0, none⟩)) (bs ++ [.int .u8 c]) w' ∧ Below B w w') := by
  obtain ⟨i0, hi, hz0, hz1, hz2⟩ := info_parts infoByte
  go_enter Tryz.func51, Tryz.ntmps51
  go_wp2_with (go_at_call 58; refine (check_k B b bs _ h).mono ?_)
  rintro e w1 ⟨rfl, h1, hb1, hk1⟩
  obtain ⟨hB, v, hbk, hown, hne⟩ := h1
  have c0 : w1.cell? ⟨b, 0, none⟩ = some (.pointer (some ⟨b, 0, none⟩)) := by rw [Lib.cell_of_heap hbk]; rfl
  have c1 : w1.cell? ⟨b, 1, none⟩ = some v := by rw [Lib.cell_of_heap hbk]; rfl
  go_wp2_with (at_builtin; refine wpList_append_ownF _ rfl _ _ 23 rfl B 5 i0 (.int .u8 0) 1 1 Tryz.underlying23 hi hz0 hz1 hz2 rfl (by decide) _ _ _ rfl (hown.alloc _) ⟨w1.heap.size, 0, none⟩ 1 1 [.int .u8 c] rfl rfl ?c1 ?c2 ?c3 ?c4 ?c5 ?_)
  case c1 =>
    intro j u hj
    match j, hj with
    | 0, hj => simp at hj; subst hj; simp [Addr.add]
  case c2 => intro u hu; simp at hu; subst hu; rfl
  case c3 => unfold maxLen; omega
  case c4 => omega
  case c5 => have := hb1.size; simp; omega
  intro v' w2 hown' hgrow _
  have hlt : b < w1.heap.size := (Array.getElem?_eq_some_iff.1 hbk).1
  have hb2 : w2.heap[b]? = some (.cells #[.pointer (some ⟨b, 0, none⟩), v] 80 (0, 0)) := by
    rw [hgrow.block b (by simp; omega) (fun e => hne e.symm), Lib.alloc_old w1 _ b hlt]
    exact hbk
  have d0 : w2.cell? ⟨b, 0, none⟩ = some (.pointer (some ⟨b, 0, none⟩)) := by rw [Lib.cell_of_heap hb2]; rfl
  have d1 : w2.cell? ⟨b, 1, none⟩ = some v := by rw [Lib.cell_of_heap hb2]; rfl
  have f1 : w2.frozen? ⟨b, 1, none⟩ = false := Lib.frozen_of_heap hb2 1
  obtain ⟨ao, n', cap, rfl⟩ : ∃ ao n' cap, v' = .slice ao n' cap := by
    rcases hown'.2 with ⟨hv, _⟩ | ⟨g, cap, cur, fz, hv, _⟩
    · exact ⟨_, _, _, hv⟩
    · exact ⟨_, _, _, hv⟩
  go_wp2
  go_ret
  refine ⟨rfl, ?_, ?_⟩
  · exact Lib.BuilderAtF.put (T := 80) (e := 5) hB hb2 (bs' := bs ++ [.int .u8 c]) (by simpa using hown') (by decide)
  · exact ((hb1.alloc (by have := hb1.size; omega) _).grown hgrow (by have := hb1.size; simp; omega) (fun k hk => (hown.lt k hk).1)).setCell (p := ⟨b, 1, none⟩) hB _
theorem BuSt.byte {w W : World} {bs : List UInt8} (h : BuSt w bs W) (c : UInt8) (hl : bs.length + 1 ≤ 1000000000) :
    Calls Tryz.prog 51 #[.pointer (some ⟨w.heap.size, 0, none⟩), .int .u8 (c.toNat : Int)] W fun e W' => e = .returned .nilIface ∧ BuSt w (bs ++ [c]) W' := by
  refine (write_byte w.heap.size w.heap.size _ _ W h.b (by rw [Lib.byteCells_length]; omega) h.s.size).mono ?_
  rintro e W' ⟨rfl, h1, h2⟩
  rw [show [Value.int .u8 (c.toNat : Int)] = Lib.byteCells [c] from rfl, ← Lib.byteCells_append] at h1
  exact ⟨rfl, .inr h1, h.s.below.trans h2⟩
end Go.Proofs.YthcndmchlpohpaaGreatDoor

namespace Go.Proofs.YthcndmchlpohpaaGreatDoor
set_option linter.unusedVariables false
set_option linter.unusedSimpArgs false
open Go.RowKit Go.Shelf
attribute [local go_sem] Oper.semAt_some

theorem enc_far (r : Int) (h : r < 0 ∨ 128 ≤ r) : ∃ n x, (Utf8.encode r).size = n + 1 ∧ 1 ≤ n ∧ n ≤ 3 ∧ 128 ≤ x ∧ x < 256 ∧ ∀ h : n < (Utf8.encode r).size, ((Utf8.encode r)[n]'h).toNat = x := by
  have key : 2 ≤ (Utf8.encode r).size ∧ (Utf8.encode r).size ≤ 4 ∧ ∀ h : (Utf8.encode r).size - 1 < (Utf8.encode r).size, 128 ≤ ((Utf8.encode r)[(Utf8.encode r).size - 1]'h).toNat := by
    by_cases hv : Utf8.valid r = true
    · refine encode_facts r hv ?_
      have : 0 ≤ r := by unfold Utf8.valid at hv; simp at hv; omega
      omega
    · have e : Utf8.encode r = Utf8.encode 65533 := by
        unfold Utf8.encode
        simp only [hv]
        rfl
      rw [e]
      exact encode_facts 65533 (by decide) (by decide)
  obtain ⟨k1, k2, k3⟩ := key
  have k4 : (Utf8.encode r).size - 1 < (Utf8.encode r).size := by omega
  refine ⟨(Utf8.encode r).size - 1, ((Utf8.encode r)[(Utf8.encode r).size - 1]'k4).toNat, by omega, by omega, by omega, k3 k4, UInt8.toNat_lt _, fun _ => rfl⟩
def fourB : ByteArray := ⟨#[92, 91, 93, 95]⟩
theorem ixb_four (k : Nat) (hk : k = 2 ∨ k = 3 ∨ k = 4) (x : Nat) (h1 : 128 ≤ x) (h2 : x < 256) : Lib.indexByte (fourB.data.toList.drop k) ((x : Int).toNat.toUInt8) = -1 := by
  have h : ∀ m : Fin 256, 128 ≤ m.val → ∀ q : Fin 5, Lib.indexByte (fourB.data.toList.drop q.val) m.val.toUInt8 = -1 := by decide +kernel
  exact h ⟨x, h2⟩ h1 ⟨k, by omega⟩
set_option maxHeartbeats 4000000 in
set_option maxRecDepth 100000 in
theorem index_fffd (w : World) :
    Calls Tryz.prog 79 #[.string ⟨#[92, 91, 93, 95]⟩, .int .i32 65533] w fun e w' => e = .returned (.int .i64 (-1)) ∧ Sees w w' := by
  go_enter Tryz.func79, Tryz.ntmps79
  go_wp2
  go_loopw [4] (fun v wr => v = .int .i64 0 ∧ ∃ pos : Nat, wr.heap[w.heap.size]? = some (.stringIter ⟨#[92, 91, 93, 95]⟩ pos) ∧ pos ≤ 4 ∧ Sees w wr) (fun _ wr => 4 - wr.iterPos w.heap.size)
  case atStart => exact ⟨rfl, 0, World.iter_heap w _ 0, by omega, (Sees.refl w).alloc _⟩
  case round =>
    obtain ⟨rfl, pos, hit, hp1, hS⟩ := hrel
    have hsz : w.heap.size < wr.heap.size := (Array.getElem?_eq_some_iff.1 hit).1
    by_cases hp : pos < 4
    · have hnx : ∀ ty, (Instr.next (.pointer (some ⟨w.heap.size, 0, none⟩)) true ty).run Tryz.prog wr = _ := fun ty => Lib.run_next_any_at wr w.heap.size ⟨#[92, 91, 93, 95]⟩ pos ty hit hp
      obtain ⟨c, hc, hd⟩ : ∃ c : Nat, c ≠ 65533 ∧ Utf8.decode ⟨#[92, 91, 93, 95]⟩ pos = (c, 1) := by
        rcases (show pos = 0 ∨ pos = 1 ∨ pos = 2 ∨ pos = 3 by omega) with rfl | rfl | rfl | rfl
        · exact ⟨92, by decide, by kernel_rfl⟩
        · exact ⟨91, by decide, by kernel_rfl⟩
        · exact ⟨93, by decide, by kernel_rfl⟩
        · exact ⟨95, by decide, by kernel_rfl⟩
      rw [hd] at hnx
      have hit2 := Lib.iterAt_heap wr w.heap.size ⟨#[92, 91, 93, 95]⟩ pos (pos + 1) hit
      have HS2 : Hid (Sees w (wr.iterAt w.heap.size ⟨#[92, 91, 93, 95]⟩ (pos + 1))) := Lib.below_iterAt hS (k := w.heap.size) (Nat.le_refl _) _ (pos + 1)
      have HIT2 := Lib.hid hit2
      have HPP := Lib.hid (iterPos_of hit)
      have hne : ((c : Int) == 65533) = false := by simp; omega
      clear hit hit2 hS hd
      go_wp2
      refine ⟨⟨rfl, pos + 1, HIT2.out, by omega, HS2.out⟩, ?_⟩
      rw [iterPos_of HIT2.out, HPP.out]
      omega
    · have hnx : ∀ ty, (Instr.next (.pointer (some ⟨w.heap.size, 0, none⟩)) true ty).run Tryz.prog wr = _ := fun ty => Lib.run_next_end_at wr w.heap.size ⟨#[92, 91, 93, 95]⟩ pos ty hit hp
      have HS2 := Lib.hid hS
      clear hS
      go_wp2
      go_ret
      exact ⟨rfl, HS2.out⟩
set_option maxHeartbeats 4000000 in
set_option maxRecDepth 100000 in
theorem index_far (r : Int) (h : r < 0 ∨ 128 ≤ r) (hr : r ≠ 65533) (w : World) :
    Calls Tryz.prog 79 #[.string ⟨#[92, 91, 93, 95]⟩, .int .i32 r] w fun e w' => e = .returned (.int .i64 (-1)) ∧ Sees w w' := by
  obtain ⟨n, x, h1, h2, h3, h4, h5, h6⟩ := enc_far r h
  go_enter Tryz.func79, Tryz.ntmps79
  have c0 : (decide (0 ≤ r) && decide (r < 128)) = false := by simp; omega
  have c1 : (r == 65533) = false := by simpa using hr
  have KV := Lib.hid (validrune_any r)
  have c2 : decide (0 ≤ r) = true → decide (r < 128) = false := by simp; omega
  have KI : Hid (∀ k, (k = 2 ∨ k = 3 ∨ k = 4) → ∀ W, Calls Tryz.prog 40 #[.string ⟨(fourB.data.toList.drop k).toArray⟩, .int .u8 (x : Int)] W fun e w' => e = .returned (.int .i64 (-1)) ∧ Sees W w') := fun k hk W => by
    refine (ixb_any _ _ W).mono ?_
    rintro e w' ⟨rfl, rfl⟩
    exact ⟨congrArg (fun z => Ending.returned (.int .i64 z)) (ixb_four k hk x h4 h5), Sees.refl _⟩
  go_wp2_with fail
  all_goals
    refine (KV.out _).mono ?_
    rintro e w' ⟨b, rfl, rfl⟩
    cases b
    · go_wp2
      go_ret
      exact ⟨rfl, Sees.refl _⟩
    · go_wp2
      rcases (show n = 1 ∨ n = 2 ∨ n = 3 by omega) with rfl | rfl | rfl
      · go_step3
        go_wp2_with fail
        go_loopw [9] (fun v wr => v = .int .i64 1 ∧ wr = w') (fun _ _ => 0)
        case atStart => exact ⟨rfl, rfl⟩
        case round =>
          obtain ⟨rfl, rfl⟩ := hrel
          -- have hl : (Utf8.encode r)[1]'(by omega) = (Utf8.encode r)[1]'(by omega) := rfl
          have hx := h6 (by omega)
          have hb : ∀ h, ((⟨#[92, 91, 93, 95]⟩ : ByteArray)[1]'h).toNat = 91 := fun _ => rfl
          have hne : ((91 : Int) != (x : Int)) = true := by simp; omega
          have hne2 : ((91 : Int) == (x : Int)) = false := by simp; omega
          have K1 := KI.out _ (by decide : 2 = 2 ∨ 2 = 3 ∨ 2 = 4)
          go_wp2_with fail
          go_step3
          go_upto_region 6 with fail
          refine wp_region_quiet_below (by kernel_rfl) (by kernel_rfl) ?_
          repeat (first | go_big_quiet_skip | (go_big_quiet_want; go_big_quiet_op; go_big_quiet_on))
          refine wpQuiet_nil ?_; intro w2 hw2'; have hw2 := regrown_sees hw2'; clear hw2'
          have S1 := Lib.hid hw2
          clear hw2
          go_wp2
          refine wp_region_quiet_below (by kernel_rfl) (by kernel_rfl) ?_
          repeat (first | go_big_quiet_skip | (go_big_quiet_want; go_big_quiet_op; go_big_quiet_on))
          (go_big_quiet_want; go_big_quiet_op; apply Exists.intro; refine ⟨fun p => Calls.regrown_of (K1 _), ?_⟩; go_big_quiet_on)
          repeat (first | go_big_quiet_skip | (go_big_quiet_want; go_big_quiet_op; go_big_quiet_on))
          refine wpQuiet_nil ?_; intro w2 hw2'; have hw2 := regrown_sees hw2'; clear hw2'
          go_wp2
          simp +zetaDelta only [Exit.noGoto, Exit.inBlock, Exit.then]
          go_ret
          exact ⟨rfl, S1.out.trans hw2⟩
      · go_step3
        go_wp2_with fail
        go_loopw [9] (fun v wr => v = .int .i64 2 ∧ wr = w') (fun _ _ => 0)
        case atStart => exact ⟨rfl, rfl⟩
        case round =>
          obtain ⟨rfl, rfl⟩ := hrel
          -- have hl : (Utf8.encode r)[2]'(by omega) = (Utf8.encode r)[2]'(by omega) := rfl
          have hx := h6 (by omega)
          have hb : ∀ h, ((⟨#[92, 91, 93, 95]⟩ : ByteArray)[2]'h).toNat = 93 := fun _ => rfl
          have hne : ((93 : Int) != (x : Int)) = true := by simp; omega
          have hne2 : ((93 : Int) == (x : Int)) = false := by simp; omega
          have K1 := KI.out _ (by decide : 3 = 2 ∨ 3 = 3 ∨ 3 = 4)
          go_wp2_with fail
          go_step3
          go_upto_region 6 with fail
          refine wp_region_quiet_below (by kernel_rfl) (by kernel_rfl) ?_
          repeat (first | go_big_quiet_skip | (go_big_quiet_want; go_big_quiet_op; go_big_quiet_on))
          refine wpQuiet_nil ?_; intro w2 hw2'; have hw2 := regrown_sees hw2'; clear hw2'
          have S1 := Lib.hid hw2
          clear hw2
          go_wp2
          refine wp_region_quiet_below (by kernel_rfl) (by kernel_rfl) ?_
          repeat (first | go_big_quiet_skip | (go_big_quiet_want; go_big_quiet_op; go_big_quiet_on))
          (go_big_quiet_want; go_big_quiet_op; apply Exists.intro; refine ⟨fun p => Calls.regrown_of (K1 _), ?_⟩; go_big_quiet_on)
          repeat (first | go_big_quiet_skip | (go_big_quiet_want; go_big_quiet_op; go_big_quiet_on))
          refine wpQuiet_nil ?_; intro w2 hw2'; have hw2 := regrown_sees hw2'; clear hw2'
          go_wp2
          simp +zetaDelta only [Exit.noGoto, Exit.inBlock, Exit.then]
          go_ret
          exact ⟨rfl, S1.out.trans hw2⟩
      · go_step3
        go_wp2_with fail
        go_loopw [9] (fun v wr => v = .int .i64 3 ∧ wr = w') (fun _ _ => 0)
        case atStart => exact ⟨rfl, rfl⟩
        case round =>
          obtain ⟨rfl, rfl⟩ := hrel
          -- have hl : (Utf8.encode r)[3]'(by omega) = (Utf8.encode r)[3]'(by omega) := rfl
          have hx := h6 (by omega)
          have hb : ∀ h, ((⟨#[92, 91, 93, 95]⟩ : ByteArray)[3]'h).toNat = 95 := fun _ => rfl
          have hne : ((95 : Int) != (x : Int)) = true := by simp; omega
          have hne2 : ((95 : Int) == (x : Int)) = false := by simp; omega
          have K1 := KI.out _ (by decide : 4 = 2 ∨ 4 = 3 ∨ 4 = 4)
          go_wp2_with fail
          go_step3
          go_upto_region 6 with fail
          refine wp_region_quiet_below (by kernel_rfl) (by kernel_rfl) ?_
          repeat (first | go_big_quiet_skip | (go_big_quiet_want; go_big_quiet_op; go_big_quiet_on))
          refine wpQuiet_nil ?_; intro w2 hw2'; have hw2 := regrown_sees hw2'; clear hw2'
          have S1 := Lib.hid hw2
          clear hw2
          go_wp2
          refine wp_region_quiet_below (by kernel_rfl) (by kernel_rfl) ?_
          repeat (first | go_big_quiet_skip | (go_big_quiet_want; go_big_quiet_op; go_big_quiet_on))
          (go_big_quiet_want; go_big_quiet_op; apply Exists.intro; refine ⟨fun p => Calls.regrown_of (K1 _), ?_⟩; go_big_quiet_on)
          repeat (first | go_big_quiet_skip | (go_big_quiet_want; go_big_quiet_op; go_big_quiet_on))
          refine wpQuiet_nil ?_; intro w2 hw2'; have hw2 := regrown_sees hw2'; clear hw2'
          go_wp2
          simp +zetaDelta only [Exit.noGoto, Exit.inBlock, Exit.then]
          go_ret
          exact ⟨rfl, S1.out.trans hw2⟩
theorem contains_any (r : Int) (w : World) :
    Calls Tryz.prog 67 #[.string ⟨#[92, 91, 93, 95]⟩, .int .i32 r] w fun e w' => e = .returned (.bool (escB r)) ∧ Sees w w' := by
  by_cases h0 : 0 ≤ r ∧ r < 128
  · refine (Any.strings_ContainsRune_ascii Tryz.lays151 ⟨#[92, 91, 93, 95]⟩ r w h0.1 h0.2).mono ?_
    rintro e w' ⟨rfl, rfl⟩
    refine ⟨?_, Sees.refl _⟩
    obtain ⟨n, rfl⟩ : ∃ n : Nat, r = n := ⟨r.toNat, by omega⟩
    have h := (show ∀ m : Fin 128, (decide (0 ≤ Lib.indexByte [92, 91, 93, 95] ((m.val : Nat) : Int).toNat.toUInt8)) = escB ((m.val : Nat) : Int) by decide +kernel) ⟨n, by omega⟩
    exact congrArg (fun b => Ending.returned (.bool b)) h
  · have hb : escB r = false := by
      unfold escB
      simp
      omega
    rw [hb]
    have K : Calls Tryz.prog 79 #[.string ⟨#[92, 91, 93, 95]⟩, .int .i32 r] w fun e w' => e = .returned (.int .i64 (-1)) ∧ Sees w w' := by
      by_cases h1 : r = 65533
      · subst h1; exact index_fffd w
      · exact index_far r (by omega) h1 w
    go_enter Tryz.func67, Tryz.ntmps67
    go_wp2_with fail
    refine K.mono ?_
    rintro e w' ⟨rfl, hs⟩
    go_wp2
    go_ret
    exact ⟨rfl, hs⟩
theorem escaped_any (r : Int) (w : World) :
    Calls Tryz.prog 52 #[.int .i32 r] w fun e w' => e = .returned (.bool (escB r)) ∧ Sees w w' := by
  have K := contains_any r
  go_enter Tryz.func52, Tryz.ntmps52
  go_wp2_with fail
  refine (K _).mono ?_
  rintro e w' ⟨rfl, hs⟩
  go_wp2
  go_ret
  exact ⟨rfl, hs⟩
end Go.Proofs.YthcndmchlpohpaaGreatDoor
