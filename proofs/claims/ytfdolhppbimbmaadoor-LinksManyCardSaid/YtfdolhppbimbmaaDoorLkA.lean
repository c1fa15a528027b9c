/- links: letters and digits, schemes, runes and ends of addresses (43). links.scheme and links.length (43). links.trimmed (43). No condition. -/
import Derived.Test.YtfdolhppbimbmaaDoorLkP
import Derived.Test.YtfdolhppbimbmaaDoorSrF
import Derived.Test.YtfdolhppbimbmaaDoorLkS
import Derived.Test.YtfdolhppbimbmaaDoorShelf
namespace Go.Proofs.YtfdolhppbimbmaaDoor
set_option linter.unusedVariables false
set_option linter.unusedSimpArgs false
open Go.RowKit Go.Shelf

theorem hasp_any (s p : ByteArray) (w : World) :
    Calls Tryd.prog 144 #[.string s, .string p] w fun e w' => e = .returned (.bool (Lib.hasPrefix s.data.toList p.data.toList)) ∧ w' = w :=
  Any.strings_HasPrefix Tryd.lays99 s p w
theorem ixb_any (s : ByteArray) (c : Int) (w : World) :
    Calls Tryd.prog 149 #[.string s, .int .u8 c] w fun e w' => e = .returned (.int .i64 (Lib.indexByte s.data.toList c.toNat.toUInt8)) ∧ w' = w :=
  Any.strings_IndexByte Tryd.lays137 s c w
theorem conr_any (s : ByteArray) (r : Int) (w : World) (h0 : 0 ≤ r) (h1 : r < 128) :
    Calls Tryd.prog 151 #[.string s, .int .i32 r] w fun e w' => e = .returned (.bool (decide (0 ≤ Lib.indexByte s.data.toList r.toNat.toUInt8))) ∧ w' = w :=
  Any.strings_ContainsRune_ascii Tryd.lays151 s r w h0 h1
theorem cnt1_any (s : ByteArray) (c : UInt8) (w : World) :
    Calls Tryd.prog 150 #[.string s, .string ⟨#[c]⟩] w fun e w' => e = .returned (.int .i64 (Lib.countByte s.data.toList c)) ∧ w' = w :=
  Any.strings_Count_one Tryd.lays138 s c w
theorem ixb_in (l : List UInt8) (c : UInt8) : decide (0 ≤ Lib.indexByte l c) = l.contains c := by
  have hge := Lib.indexByte_ge l c
  rw [Bool.eq_iff_iff, decide_eq_true_eq, List.contains_iff_mem]
  constructor
  · intro h
    obtain ⟨o, ho⟩ : ∃ o : Nat, Lib.indexByte l c = o := ⟨(Lib.indexByte l c).toNat, by omega⟩
    exact List.mem_iff_getElem?.2 ⟨o, (Lib.indexByte_some ho).1⟩
  · intro h
    obtain ⟨k, hk⟩ := List.mem_iff_getElem?.1 h
    rcases (by omega : Lib.indexByte l c = -1 ∨ 0 ≤ Lib.indexByte l c) with h1 | h1
    · exact absurd hk (Lib.indexByte_none h1 k)
    · exact h1
/-- The test of a byte, as a number. -/
def plI (x : Int) : Bool := ((decide (x ≥ 97) && decide (x ≤ 122)) || (decide (x ≥ 65) && decide (x ≤ 90))) || (decide (x ≥ 48) && decide (x ≤ 57))
theorem plI_nat (b : UInt8) : plI (b.toNat : Int) = plB b := by
  unfold plI plB
  rw [decide_eq_decide.2 (show ((b.toNat : Int) ≥ 97 ↔ 97 ≤ b.toNat) by omega), decide_eq_decide.2 (show ((b.toNat : Int) ≤ 122 ↔ b.toNat ≤ 122) by omega), decide_eq_decide.2 (show ((b.toNat : Int) ≥ 65 ↔ 65 ≤ b.toNat) by omega), decide_eq_decide.2 (show ((b.toNat : Int) ≤ 90 ↔ b.toNat ≤ 90) by omega), decide_eq_decide.2 (show ((b.toNat : Int) ≥ 48 ↔ 48 ≤ b.toNat) by omega), decide_eq_decide.2 (show ((b.toNat : Int) ≤ 57 ↔ b.toNat ≤ 57) by omega)]
theorem w3 (a b : Bool) : (a = true ∧ b = true) ∨ (a = true ∧ b = false) ∨ a = false := by
  cases a <;> cases b <;> simp
set_option maxHeartbeats 4000000 in
set_option maxRecDepth 100000 in
theorem plain_any (x : Int) (w : World) : Calls Tryd.prog 123 #[.int .u8 x] w fun e w' => e = .returned (.bool (plI x)) ∧ w' = w := by
  obtain ⟨P, hP⟩ : ∃ P, P = plI x := ⟨_, rfl⟩
  rw [← hP]
  have HP := Lib.hid hP
  clear hP
  go_enter Tryd.func123, Tryd.ntmps123
  rcases w3 (decide (x ≥ 97)) (decide (x ≤ 122)) with ⟨a1, a2⟩ | ⟨a1, a2⟩ | a1 <;> rcases w3 (decide (x ≥ 65)) (decide (x ≤ 90)) with ⟨b1, b2⟩ | ⟨b1, b2⟩ | b1 <;> rcases w3 (decide (x ≥ 48)) (decide (x ≤ 57)) with ⟨c1, c2⟩ | ⟨c1, c2⟩ | c1
  all_goals
    have hp : Hid (P = _) := HP.out
    unfold plI at hp
    (try rw [a1] at hp)
    (try rw [a2] at hp)
    (try rw [b1] at hp)
    (try rw [b2] at hp)
    (try rw [c1] at hp)
    (try rw [c2] at hp)
    go_wp2
    go_ret
    exact ⟨by rw [hp.out]; simp, rfl⟩
end Go.Proofs.YtfdolhppbimbmaaDoor

namespace Go.Proofs.YtfdolhppbimbmaaDoor
set_option linter.unusedVariables false
set_option linter.unusedSimpArgs false
open Go.RowKit Go.Shelf

def schs : Nat → List UInt8
  | 0 => httpL
  | 1 => httpsL
  | 2 => ftpL
  | _ => fileL
theorem sch_first {l : List UInt8} {k : Nat} (hk : k < 4) (h0 : ∀ j, j < k → Lib.hasPrefix l (schs j) = false) (h : Lib.hasPrefix l (schs k) = true) : schN l = (schs k).length := by
  unfold schN
  rcases (by omega : k = 0 ∨ k = 1 ∨ k = 2 ∨ k = 3) with rfl | rfl | rfl | rfl
  · rw [if_pos (show Lib.hasPrefix l httpL = true from h)]; rfl
  · rw [if_neg (by rw [show Lib.hasPrefix l httpL = false from h0 0 (by decide)]; decide), if_pos (show Lib.hasPrefix l httpsL = true from h)]; rfl
  · rw [if_neg (by rw [show Lib.hasPrefix l httpL = false from h0 0 (by decide)]; decide), if_neg (by rw [show Lib.hasPrefix l httpsL = false from h0 1 (by decide)]; decide), if_pos (show Lib.hasPrefix l ftpL = true from h)]; rfl
  · rw [if_neg (by rw [show Lib.hasPrefix l httpL = false from h0 0 (by decide)]; decide), if_neg (by rw [show Lib.hasPrefix l httpsL = false from h0 1 (by decide)]; decide), if_neg (by rw [show Lib.hasPrefix l ftpL = false from h0 2 (by decide)]; decide), if_pos (show Lib.hasPrefix l fileL = true from h)]; rfl
theorem sch_none {l : List UInt8} (h0 : ∀ j, j < 4 → Lib.hasPrefix l (schs j) = false) : schN l = 0 := by
  unfold schN
  rw [if_neg (by rw [show Lib.hasPrefix l httpL = false from h0 0 (by decide)]; decide), if_neg (by rw [show Lib.hasPrefix l httpsL = false from h0 1 (by decide)]; decide), if_neg (by rw [show Lib.hasPrefix l ftpL = false from h0 2 (by decide)]; decide), if_neg (by rw [show Lib.hasPrefix l fileL = false from h0 3 (by decide)]; decide)]
set_option maxHeartbeats 2000000 in
set_option maxRecDepth 100000 in
theorem scheme_any (s : ByteArray) (w : World) : Calls Tryd.prog 124 #[.string s] w fun e w' => e = .returned (.int .i64 (schN s.data.toList)) ∧ Sees w w' := by
  have K := Lib.hid (fun p W => hasp_any s p W)
  go_enter Tryd.func124, Tryd.ntmps124
  go_upto_region 2 with fail
  refine wp_world fun W1 hW1 => ?_
  have C : Hid (∀ k, k < 4 → W1.cell? ⟨w.heap.size, k, none⟩ = some (.string (strL (schs k)))) := fun k hk => by
    subst hW1
    rw [cell_of_row _ _ _ _ _ _ (heap_alloc_new w _)]
    rcases (by omega : k = 0 ∨ k = 1 ∨ k = 2 ∨ k = 3) with rfl | rfl | rfl | rfl <;> rfl
  have HS1 : Hid (Sees w W1) := by subst hW1; exact (Sees.refl w).alloc _
  have hbl : w.heap.size < W1.heap.size := by subst hW1; exact (Array.getElem?_eq_some_iff.1 (heap_alloc_new w _)).1
  clear hW1
  obtain ⟨b, hb⟩ : ∃ b, b = w.heap.size := ⟨_, rfl⟩
  rw [← hb] at C hbl ⊢
  clear hb
  go_wp2_with fail
  go_loopw [7] (fun i W => ∃ k : Nat, k ≤ 4 ∧ i = .int .i64 k ∧ Hid (∀ j, j < k → Lib.hasPrefix s.data.toList (schs j) = false) ∧ Sees W1 W) (fun i _ => 4 - (intOf i).toNat)
  case atStart => exact ⟨0, by omega, rfl, (fun j h => by omega), Sees.refl _⟩
  case round =>
    obtain ⟨k, hk, rfl, h0, hS⟩ := hrel
    have HS := Lib.hid (HS1.out.trans hS)
    have HS' := Lib.hid hS
    by_cases hlt : k < 4
    · have c := hS.cell (C.out k hlt)
      obtain ⟨p, hp⟩ : ∃ p, p = strL (schs k) := ⟨_, rfl⟩
      obtain ⟨B, hB⟩ : ∃ B, B = Lib.hasPrefix s.data.toList (schs k) := ⟨_, rfl⟩
      have KP : Hid (∀ W, Calls Tryd.prog 144 #[.string s, .string p] W fun e w' => e = .returned (.bool B) ∧ w' = W) := fun W => by
        rw [hp, hB]; exact K.out _ W
      rw [← hp] at c
      have HP : Hid (p.size = (schs k).length) := by unfold RowKit.Hid; rw [hp, strL_size]
      have HB := Lib.hid hB
      clear hS hp hB
      go_wp2_with fail
      refine (KP.out _).mono ?_
      rintro e W2 ⟨rfl, rfl⟩
      cases B
      · go_wp2
        refine ⟨⟨k + 1, by omega, by go_num, (fun j hj => ?_), HS'.out⟩, by simp [intOf]; omega⟩
        rcases Nat.lt_or_ge j k with h | h
        · exact h0.out j h
        · obtain rfl : j = k := by omega
          exact HB.out.symm
      · go_wp2
        go_ret
        exact ⟨by rw [sch_first hlt h0.out HB.out.symm, ← HP.out]; rfl, HS.out⟩
    · obtain rfl : k = 4 := by omega
      have HN := Lib.hid (sch_none h0.out)
      clear hS h0
      go_wp2
      go_ret
      exact ⟨by rw [HN.out]; rfl, HS.out⟩
set_option maxHeartbeats 4000000 in
set_option maxRecDepth 100000 in
theorem length_any (s : ByteArray) (hs : s.size ≤ 1000000000) (w : World) : Calls Tryd.prog 126 #[.string s] w fun e w' => e = .returned (.int .i64 (lenN s.data.toList)) ∧ Sees w w' := by
  have KP := Lib.hid (fun x W => plain_any x W)
  have KR := Lib.hid (fun (r : Int) W (h0 : 0 ≤ r) (h1 : r < 128) => conr_any ⟨#[45, 46, 95, 126, 58, 47, 63, 35, 64, 33, 36, 38, 39, 40, 41, 42, 43, 44, 59, 61, 37, 91, 93]⟩ r W h0 h1)
  go_enter Tryd.func126, Tryd.ntmps126
  go_wp2
  go_loopw [] (fun wr => ∃ pos : Nat, wr.heap[w.heap.size]? = some (.stringIter s pos) ∧ Hid (∀ c ∈ s.data.toList.take pos, inB c = true) ∧ pos ≤ s.size ∧ Sees w wr) (fun wr => s.size - wr.iterPos w.heap.size)
  case atStart => exact ⟨0, World.iter_heap w s 0, (fun c h => by simp at h), Nat.zero_le _, (Sees.refl w).alloc _⟩
  case round =>
    obtain ⟨pos, hit, hin, hp1, hS⟩ := hrel
    have hsz : w.heap.size < wr.heap.size := (Array.getElem?_eq_some_iff.1 hit).1
    by_cases hp : pos < s.size
    · have hnx : ∀ ty, (Instr.next (.pointer (some ⟨w.heap.size, 0, none⟩)) true ty).run Tryd.prog wr = _ := fun ty => Lib.run_next_any_at wr w.heap.size s pos ty hit hp
      have hit2 := Lib.iterAt_heap wr w.heap.size s pos (pos + (Utf8.decode s pos).2) hit
      have hS2 : Sees w (wr.iterAt w.heap.size s (pos + (Utf8.decode s pos).2)) := Lib.below_iterAt hS (k := w.heap.size) (Nat.le_refl _) s (pos + (Utf8.decode s pos).2)
      have hdw := dec_width s pos hp
      have hpl : pos < s.data.toList.length := by rw [← Lib.size_eq]; exact hp
      obtain ⟨b, hb⟩ : ∃ b, s.data.toList[pos]? = some b := ⟨_, List.getElem?_eq_getElem hpl⟩
      have hdb := dec_bytes (s.data.toList.drop pos)
      rw [Lib.decodeL_drop, drop_at hb, List.getD_cons_zero, ← drop_at hb] at hdb
      obtain ⟨R, hR⟩ : ∃ R, R = (Utf8.decode s pos).1 := ⟨_, rfl⟩
      obtain ⟨w0, hw0⟩ : ∃ w0, w0 = (Utf8.decode s pos).2 := ⟨_, rfl⟩
      have hdb2 : (b.toNat < 128 ∧ R = b.toNat ∧ w0 = 1) ∨ (128 ≤ R ∧ ∀ c ∈ (s.data.toList.drop pos).take w0, 128 ≤ c.toNat) := by
        rw [hR, hw0]
        rcases hdb with ⟨h1, h2⟩ | ⟨_, h2, _, h4⟩
        · exact .inl ⟨h1, by rw [h2], by rw [h2]⟩
        · exact .inr ⟨h2, h4⟩
      simp only [← hR, ← hw0] at hdw hit2 hS2 hnx
      obtain ⟨x, hx⟩ : ∃ x : Int, x = (R : Int) := ⟨_, rfl⟩
      simp only [← hx] at hnx
      have HIT2 := Lib.hid hit2
      have HS := Lib.hid hS
      have HS2 := Lib.hid hS2
      have HDW := Lib.hid hdw
      have HBB := Lib.hid hb
      have hms : Hid (s.size - (wr.iterAt w.heap.size s (pos + w0)).iterPos w.heap.size < s.size - wr.iterPos w.heap.size) := by
        have e1 := iterPos_of HIT2.out
        have e2 := iterPos_of hit
        have := HDW.out
        unfold RowKit.Hid
        rw [e1, e2]
        omega
      have hnxt : (∀ c ∈ (s.data.toList.drop pos).take w0, inB c = true) → ∀ c ∈ s.data.toList.take (pos + w0), inB c = true := fun h c hc => by
        rw [List.take_add] at hc
        rcases List.mem_append.1 hc with hc | hc
        · exact hin.out c hc
        · exact h c hc
      have HNX := Lib.hid hnxt
      clear hit hit2 hS hS2 hdw hb hdb hR hw0 hnxt
      rcases hdb2 with ⟨hb1, rfl, rfl⟩ | ⟨hb1, hb4⟩
      · have h128 : x < 128 := by omega
        have h0 : 0 ≤ x := by omega
        have hl1 : decide (x < 128) = true := decide_eq_true h128
        have hwu : IntKind.u8.wrap x = x := by unfold IntKind.wrap; simp [IntKind.signed, IntKind.bits]; omega
        have hone : (s.data.toList.drop pos).take 1 = [b] := by rw [drop_at HBB.out]; rfl
        have HONE := Lib.hid hone
        obtain ⟨P, hP⟩ : ∃ P, P = plB b := ⟨_, rfl⟩
        obtain ⟨Q, hQ⟩ : ∃ Q, Q = setL.contains b := ⟨_, rfl⟩
        have KPx : Hid (∀ W, Calls Tryd.prog 123 #[.int .u8 x] W fun e w' => e = .returned (.bool P) ∧ w' = W) := fun W => by
          rw [hP, hx, ← plI_nat]; exact KP.out _ W
        have hxb : x.toNat.toUInt8 = b := by rw [hx]; show UInt8.ofNat _ = b; simp
        have KRx : Hid (∀ W, Calls Tryd.prog 151 #[.string ⟨#[45, 46, 95, 126, 58, 47, 63, 35, 64, 33, 36, 38, 39, 40, 41, 42, 43, 44, 59, 61, 37, 91, 93]⟩, .int .i32 x] W fun e w' => e = .returned (.bool Q) ∧ w' = W) := fun W => by
          have q := KR.out x W h0 h128
          rw [hxb, ixb_in] at q
          rw [hQ]
          exact q
        have HPB := Lib.hid hP
        have HQB := Lib.hid hQ
        have HB1 := Lib.hid hb1
        clear hx hP hQ hxb hb1 hone KP KR
        go_wp2_with fail
        refine (KPx.out _).mono ?_
        rintro e W2 ⟨rfl, rfl⟩
        cases P
        · go_wp2_with fail
          refine (KRx.out _).mono ?_
          rintro e W2 ⟨rfl, rfl⟩
          cases Q
          · have HL : Hid (lenN s.data.toList = pos) := lenN_at hin.out HBB.out (by unfold inB; rw [← HPB.out, ← HQB.out, decide_eq_false (by have := HB1.out; omega)]; rfl)
            go_wp2
            go_ret
            exact ⟨by rw [HL.out]; rfl, HS2.out⟩
          · go_wp2
            exact ⟨⟨pos + 1, HIT2.out, HNX.out (fun c hc => by rw [HONE.out] at hc; rw [List.mem_singleton.1 hc]; unfold inB; rw [← HQB.out]; simp), HDW.out.2, HS2.out⟩, hms.out⟩
        · go_wp2
          exact ⟨⟨pos + 1, HIT2.out, HNX.out (fun c hc => by rw [HONE.out] at hc; rw [List.mem_singleton.1 hc]; unfold inB; rw [← HPB.out]; simp), HDW.out.2, HS2.out⟩, hms.out⟩
      · have hl1 : decide (x < 128) = false := decide_eq_false (by omega)
        have h128 : ¬ (x < 128) := by omega
        have HB4 := Lib.hid hb4
        clear hx hb1 hb4
        go_wp2
        exact ⟨⟨pos + w0, HIT2.out, HNX.out (fun c hc => by unfold inB; rw [decide_eq_true (HB4.out c hc)]; rfl), HDW.out.2, HS2.out⟩, hms.out⟩
    · have hnx : ∀ ty, (Instr.next (.pointer (some ⟨w.heap.size, 0, none⟩)) true ty).run Tryd.prog wr = _ := fun ty => Lib.run_next_end_at wr w.heap.size s pos ty hit hp
      have HL : Hid (lenN s.data.toList = s.size) := by
        unfold RowKit.Hid
        rw [lenN_all, Lib.size_eq]
        intro c hc
        refine hin.out c ?_
        rw [List.take_of_length_le (by rw [← Lib.size_eq]; omega)]
        exact hc
      have HS2 := Lib.hid hS
      clear hS hin
      go_wp2
      go_ret
      exact ⟨by rw [HL.out]; rfl, HS2.out⟩
end Go.Proofs.YtfdolhppbimbmaaDoor

namespace Go.Proofs.YtfdolhppbimbmaaDoor
set_option linter.unusedVariables false
set_option linter.unusedSimpArgs false
open Go.RowKit Go.Shelf

/-- The length of a string. -/
def strSize : Value → Nat
  | .string b => b.size
  | _ => 0
theorem ext_strL (s : ByteArray) (a b : Nat) : s.extract a b = strL ((s.data.toList.drop a).take (b - a)) := bytes_ext (by
  rw [strL_list, ByteArray.data_extract, Array.toList_extract])
theorem strL_ext (l : List UInt8) (a b : Nat) : (strL l).extract a b = strL ((l.drop a).take (b - a)) := by rw [ext_strL, strL_list]
theorem strL_emp (l : List UInt8) : (strL l).toList.isEmpty = l.isEmpty := by rw [Lib.toList_data, strL_list]
theorem badT_at {l : List UInt8} {q : Nat} {b : UInt8} (hb : l[q]? = some b) : badT (l.take (q + 1)) = (endL.contains b || (b == 41 && decide ((l.take (q + 1)).count 40 < (l.take (q + 1)).count 41)) || (b == 93 && decide ((l.take (q + 1)).count 91 < (l.take (q + 1)).count 93))) := by
  have h : (l.take (q + 1)).getLast? = some b := by
    have hl := (List.getElem?_eq_some_iff.1 hb).1
    rw [List.getLast?_eq_getElem?, List.length_take, Nat.min_eq_left (by omega), Nat.add_sub_cancel, List.getElem?_take, if_pos (by omega)]
    exact hb
  unfold badT
  rw [h]
set_option maxHeartbeats 8000000 in
set_option maxRecDepth 100000 in
theorem ltrim_any (s : ByteArray) (hs : s.size ≤ 1000000000) (w : World) : Calls Tryd.prog 125 #[.string s] w fun e w' => e = .returned (.string (strL (s.data.toList.take (tailN s.data.toList)))) ∧ w' = w := by
  have KI := Lib.hid (fun (c : Int) W => ixb_any ⟨#[46, 44, 58, 59, 33, 63, 39]⟩ c W)
  have KC := Lib.hid (fun (x : ByteArray) (c : UInt8) W => cnt1_any x c W)
  obtain ⟨l, hl⟩ : ∃ l, l = s.data.toList := ⟨_, rfl⟩
  have hls : l.length = s.size := by rw [hl, Lib.size_eq]
  have hsl : s = strL l := by rw [hl, strL_self]
  rw [← hl]
  have HSL := Lib.hid hsl
  have HLS := Lib.hid hls
  have hn : l.length ≤ 1000000000 := by omega
  clear hl hsl hls
  obtain ⟨E, hE⟩ : ∃ E, E = Ending.returned (.string (strL (l.take (tailN l)))) := ⟨_, rfl⟩
  rw [← hE]
  have HE := Lib.hid hE
  clear hE
  go_enter Tryd.func125, Tryd.ntmps125
  go_wp2
  go_loop [0] (fun v => ∃ k : Nat, k ≤ l.length ∧ v = .string (strL (l.take k)) ∧ Hid (tailN l = trimK l k)) (fun v => strSize v)
  case atStart => exact ⟨l.length, Nat.le_refl _, by rw [List.take_length, HSL.out], rfl⟩
  case round =>
    obtain ⟨k, hk, rfl, ht⟩ := hrel
    obtain ⟨X, hX⟩ : ∃ X, X = strL (l.take k) := ⟨_, rfl⟩
    rw [← hX]
    have HX := Lib.hid hX
    cases k with
    | zero =>
      have hne : X.toList.isEmpty = true := by rw [hX, strL_emp]; rfl
      clear hX
      go_wp2
      go_ret
      exact ⟨by rw [HE.out, ht.out, HX.out]; rfl, rfl⟩
    | succ q =>
      have hXs : X.size = q + 1 := by rw [hX, strL_size, List.length_take]; omega
      obtain ⟨b, hb⟩ : ∃ b, l[q]? = some b := ⟨_, List.getElem?_eq_getElem (by omega)⟩
      have hne : X.toList.isEmpty = false := by
        rw [hX, strL_emp]
        cases hlt : l.take (q + 1) with
        | nil => rw [hlt] at hX; rw [hX] at hXs; cases hXs
        | cons => rfl
      have hix := bAt_at X q (by omega)
      have hxb : bAt X q = (b.toNat : Int) := by
        unfold bAt
        rw [hX, strL_list, List.getD_eq_getElem?_getD, List.getElem?_take, if_pos (by omega), hb]
        rfl
      obtain ⟨x, hx⟩ : ∃ x, x = bAt X q := ⟨_, rfl⟩
      rw [← hx] at hix hxb
      have hxu : x.toNat.toUInt8 = b := by rw [hxb]; show UInt8.ofNat _ = b; simp
      obtain ⟨v, hv⟩ : ∃ v, v = Lib.indexByte endL b := ⟨_, rfl⟩
      have KIx : Hid (∀ W, Calls Tryd.prog 149 #[.string ⟨#[46, 44, 58, 59, 33, 63, 39]⟩, .int .u8 x] W fun e w' => e = .returned (.int .i64 v) ∧ w' = W) := fun W => by
        have q := KI.out x W
        rw [hxu] at q
        rw [hv]
        exact q
      obtain ⟨P, hP⟩ : ∃ P, P = endL.contains b := ⟨_, rfl⟩
      have hv1 : decide (v ≥ 0) = P := by rw [hP, ← ixb_in, hv]
      have hv2 : decide (0 ≤ v) = P := hv1
      obtain ⟨c41, h41⟩ : ∃ c : Nat, c = (l.take (q + 1)).count 41 := ⟨_, rfl⟩
      obtain ⟨c40, h40⟩ : ∃ c : Nat, c = (l.take (q + 1)).count 40 := ⟨_, rfl⟩
      obtain ⟨c91, h91⟩ : ∃ c : Nat, c = (l.take (q + 1)).count 91 := ⟨_, rfl⟩
      obtain ⟨c93, h93⟩ : ∃ c : Nat, c = (l.take (q + 1)).count 93 := ⟨_, rfl⟩
      have KC41 : Hid (∀ W, Calls Tryd.prog 150 #[.string X, .string ⟨#[41]⟩] W fun e w' => e = .returned (.int .i64 c41) ∧ w' = W) := fun W => by
        have q := KC.out X 41 W
        rw [hX, strL_list] at q
        rw [h41, hX]; exact q
      have KC40 : Hid (∀ W, Calls Tryd.prog 150 #[.string X, .string ⟨#[40]⟩] W fun e w' => e = .returned (.int .i64 c40) ∧ w' = W) := fun W => by
        have q := KC.out X 40 W
        rw [hX, strL_list] at q
        rw [h40, hX]; exact q
      have KC91 : Hid (∀ W, Calls Tryd.prog 150 #[.string X, .string ⟨#[91]⟩] W fun e w' => e = .returned (.int .i64 c91) ∧ w' = W) := fun W => by
        have q := KC.out X 91 W
        rw [hX, strL_list] at q
        rw [h91, hX]; exact q
      have KC93 : Hid (∀ W, Calls Tryd.prog 150 #[.string X, .string ⟨#[93]⟩] W fun e w' => e = .returned (.int .i64 c93) ∧ w' = W) := fun W => by
        have q := KC.out X 93 W
        rw [hX, strL_list] at q
        rw [h93, hX]; exact q
      have hbad := badT_at hb
      rw [← hP, ← h40, ← h41, ← h91, ← h93] at hbad
      have hb41 : (x == 41) = (b == 41) := by
        rw [hxb, Bool.eq_iff_iff, beq_iff_eq, beq_iff_eq, ← UInt8.toNat_inj]
        show _ ↔ b.toNat = 41
        omega
      have hb93 : (x == 93) = (b == 93) := by
        rw [hxb, Bool.eq_iff_iff, beq_iff_eq, beq_iff_eq, ← UInt8.toNat_inj]
        show _ ↔ b.toNat = 93
        omega
      rw [← hb41, ← hb93] at hbad
      have HBAD := Lib.hid hbad
      have HNO : Hid (badT (l.take (q + 1)) = false → E = Ending.returned (.string X)) := fun h => by
        rw [HE.out, ht.out, trimK, if_neg (by rw [h]; decide), HX.out]
      have HYES : Hid (badT (l.take (q + 1)) = true → tailN l = trimK l q) := fun h => by
        rw [ht.out, trimK, if_pos h]
      have HXE : Hid (X.extract 0 q = strL (l.take q)) := by
        unfold RowKit.Hid
        rw [HX.out, strL_ext, List.drop_zero, Nat.sub_zero, List.take_take, Nat.min_eq_left (by omega)]
      have hw1 : IntKind.i64.wrap ((q : Int) + 1 - 1) = (q : Int) := by rw [Int.add_sub_cancel]; exact IntWalk.i64_in _ (by omega)
      have H49 : Hid ((x == 41) = true → (x == 93) = false) := fun h => by have := beq_iff_eq.1 h; rw [this]; rfl
      clear hX hb hxb hx hxu hv hP h41 h40 h91 h93 hbad hb41 hb93 ht
      have HMS : Hid (strSize (.string (X.extract 0 q)) < strSize (.string X)) := by
        show (X.extract 0 q).size < X.size
        rw [HXE.out, strL_size, hXs, List.length_take]
        omega
      rcases Bool.eq_false_or_eq_true P with hP | hP
      · subst hP
        have HY := Lib.hid (HYES.out (by rw [HBAD.out]; rfl))
        go_wp2_with fail
        refine (KIx.out _).mono ?_
        rintro e w1 ⟨rfl, rfl⟩
        go_wp2
        exact ⟨⟨q, by omega, by rw [HXE.out], HY⟩, HMS.out⟩
      subst hP
      rcases Bool.eq_false_or_eq_true (x == 41) with e1 | e1
      · have e2 := H49.out e1
        rcases Bool.eq_false_or_eq_true (decide (c40 < c41)) with g | g
        · have g1 : decide ((c41 : Int) > (c40 : Int)) = true := decide_eq_true (by have := of_decide_eq_true g; omega)
          have g2 : (c40 : Int) < (c41 : Int) := of_decide_eq_true g1
          have HY := Lib.hid (HYES.out (by rw [HBAD.out, e1, g]; rfl))
          clear g
          go_wp2_with fail
          refine (KIx.out _).mono ?_
          rintro e w1 ⟨rfl, rfl⟩
          go_wp2_with fail
          refine (KC41.out _).mono ?_
          rintro e w1 ⟨rfl, rfl⟩
          go_wp2_with fail
          refine (KC40.out _).mono ?_
          rintro e w1 ⟨rfl, rfl⟩
          go_wp2
          exact ⟨⟨q, by omega, by rw [HXE.out], HY⟩, HMS.out⟩
        · have g1 : decide ((c41 : Int) > (c40 : Int)) = false := decide_eq_false (by have := of_decide_eq_false g; omega)
          have g2 : ¬ ((c40 : Int) < (c41 : Int)) := of_decide_eq_false g1
          have HNN := Lib.hid (HNO.out (by rw [HBAD.out, e1, e2, g]; rfl))
          clear g
          go_wp2_with fail
          refine (KIx.out _).mono ?_
          rintro e w1 ⟨rfl, rfl⟩
          go_wp2_with fail
          refine (KC41.out _).mono ?_
          rintro e w1 ⟨rfl, rfl⟩
          go_wp2_with fail
          refine (KC40.out _).mono ?_
          rintro e w1 ⟨rfl, rfl⟩
          go_wp2
          go_ret
          exact ⟨HNN.out.symm, rfl⟩
      rcases Bool.eq_false_or_eq_true (x == 93) with e2 | e2
      · rcases Bool.eq_false_or_eq_true (decide (c91 < c93)) with g | g
        · have g1 : decide ((c93 : Int) > (c91 : Int)) = true := decide_eq_true (by have := of_decide_eq_true g; omega)
          have g2 : (c91 : Int) < (c93 : Int) := of_decide_eq_true g1
          have HY := Lib.hid (HYES.out (by rw [HBAD.out, e2, g]; simp))
          clear g
          go_wp2_with fail
          refine (KIx.out _).mono ?_
          rintro e w1 ⟨rfl, rfl⟩
          go_wp2_with fail
          refine (KC93.out _).mono ?_
          rintro e w1 ⟨rfl, rfl⟩
          go_wp2_with fail
          refine (KC91.out _).mono ?_
          rintro e w1 ⟨rfl, rfl⟩
          go_wp2
          exact ⟨⟨q, by omega, by rw [HXE.out], HY⟩, HMS.out⟩
        · have g1 : decide ((c93 : Int) > (c91 : Int)) = false := decide_eq_false (by have := of_decide_eq_false g; omega)
          have g2 : ¬ ((c91 : Int) < (c93 : Int)) := of_decide_eq_false g1
          have HNN := Lib.hid (HNO.out (by rw [HBAD.out, e1, e2, g]; rfl))
          clear g
          go_wp2_with fail
          refine (KIx.out _).mono ?_
          rintro e w1 ⟨rfl, rfl⟩
          go_wp2_with fail
          refine (KC93.out _).mono ?_
          rintro e w1 ⟨rfl, rfl⟩
          go_wp2_with fail
          refine (KC91.out _).mono ?_
          rintro e w1 ⟨rfl, rfl⟩
          go_wp2
          go_ret
          exact ⟨HNN.out.symm, rfl⟩
      · have HNN := Lib.hid (HNO.out (by rw [HBAD.out, e1, e2]; rfl))
        go_wp2_with fail
        refine (KIx.out _).mono ?_
        rintro e w1 ⟨rfl, rfl⟩
        go_wp2
        go_ret
        exact ⟨HNN.out.symm, rfl⟩
end Go.Proofs.YtfdolhppbimbmaaDoor
