/- LinksFind, LinksRunes (43). The tables hold what the program's text lays. -/
import Derived.Test.YtfdolhppbimbmaaDoorLkM
import Derived.Test.YtfdolhppbimbmaaDoorLkF
namespace Go.Proofs.YtfdolhppbimbmaaDoor
set_option linter.unusedVariables false
set_option linter.unusedSimpArgs false
open Go.RowKit Go.Shelf
open Go.Extern.FmtText (enc1)
attribute [local go_sem] Oper.semAt_some

theorem found_find (l : List UInt8) : (foundL l).map Prod.snd = findS l := by
  unfold foundL findS findL
  rw [List.map_map, List.map_map]
  rfl
theorem fd_cell {F : Nat → Prop} {w : World} {a : Option Addr} {n c : Nat} {xs : List (Nat × ByteArray)} (h : fdEl.Rd F w (.slice a n c) xs) {k : Nat} (hk : k < n) : ∃ b o x, a = some ⟨b, o, none⟩ ∧ xs[k]? = some x ∧ w.cell? ⟨b, o + k * 2, none⟩ = some (.int .i64 x.1) ∧ w.cell? ⟨b, o + k * 2 + 1, none⟩ = some (.string x.2) := by
  obtain ⟨b, o, x, vs, rfl, _, hx, hvs, hc⟩ := h.at_ hk
  have hvs : vs = [.int .i64 x.1, .string x.2] := hvs
  subst hvs
  exact ⟨b, o, x, rfl, hx, hc 0 _ rfl, hc 1 _ rfl⟩
set_option maxHeartbeats 8000000 in
set_option maxRecDepth 100000 in
theorem linksFind_any (s : ByteArray) (w : World) (hst : Std w) (ht : Tabs w) :
    Calls Tryd.prog 4 #[.string s] w fun e w' => e = .returned (.bool true) ∧ Sees w w' := by
  have KN := Lib.hid (fun W (hs : Sees w W) => lknown_any W (hst.sees hs) (ht.sees hs))
  clear hst ht
  go_enter Tryd.func4, Tryd.ntmps4
  by_cases h : 200 < s.size
  · have h1 : decide ((s.size : Int) > 200) = true := decide_eq_true (by omega)
    go_wp2_with fail
    refine (KN.out _ (Sees.refl w)).mono ?_
    rintro e W1 ⟨rfl, s1⟩
    go_wp2
    go_ret
    exact ⟨rfl, s1⟩
  · have h1 : decide ((s.size : Int) > 200) = false := decide_eq_false (by omega)
    obtain ⟨l, hl⟩ : ∃ l, l = s.data.toList := ⟨_, rfl⟩
    have KF := Lib.hid (fnd_any s (by omega) w)
    have KT := Lib.hid (fun u F W (hu : sEl.Rd F W u (findS s.data.toList)) => finds_true s (by omega) u F W hu)
    have hll : l.length ≤ 200 := by rw [hl, ← Lib.size_eq]; omega
    rw [← hl] at KF KT
    clear hl
    go_wp2_with fail
    refine KF.out.mono ?_
    rintro e W1 ⟨v, rfl, ho, hs1⟩
    obtain ⟨av, cv, rfl, _⟩ := ho.slice
    obtain ⟨m, hm⟩ : ∃ m, m = (foundL l).length := ⟨_, rfl⟩
    have hml : m ≤ 200 := by
      have := spots_len l false 0 0
      rw [hm]
      unfold foundL
      rw [List.length_map]
      unfold spotsL
      omega
    rw [← hm] at ho ⊢
    have HM : Hid ((findS l).length = m) := by rw [hm, ← found_find, List.length_map]; exact rfl
    have HO := Lib.hid ho.rd
    have HS1 := Lib.hid hs1
    clear ho hm hs1 KF hll
    go_wp2_with fail
    go_loopw [3, 5] (fun u i W => ∃ k : Nat, k ≤ m ∧ i = .int .i64 k ∧ sEl.Own (fun b => W1.heap.size ≤ b) W u ((findS l).take k) ∧ Sees W1 W) (fun _ i _ => m - (intOf i).toNat)
    case atStart => exact ⟨0, Nat.zero_le _, rfl, El.Own.nil _ _, Sees.refl _⟩
    case round =>
      obtain ⟨k, hk, rfl, hR, hS⟩ := hrel
      have HR := Lib.hid hR
      have HS := Lib.hid hS
      clear hR hS
      by_cases hlt : k < m
      · obtain ⟨b1, o1, x, rfl, hx, y0, y1⟩ := fd_cell (HO.out.sees HS.out) hlt
        have HTK : Hid ((findS l).take (k + 1) = (findS l).take k ++ [x.2]) := by
          unfold RowKit.Hid
          rw [List.take_add_one]
          congr 1
          rw [← found_find, List.getElem?_map, hx]
          rfl
        have HLL : Hid (((findS l).take k).length + [x.2].length ≤ 100000000) := by
          unfold RowKit.Hid
          rw [List.length_take, List.length_singleton]
          omega
        have sB : Sees wr (wr.alloc (.cells #[.string x.2] 9)) := (Sees.refl _).alloc _
        have HS3 := Lib.hid (HS.out.trans sB)
        have HR3 := Lib.hid (HR.out.sees sB).cut
        have HRW := Lib.hid (heap_alloc_new wr (.cells #[.string x.2] 9))
        have HWB := Lib.hid (HS.out.trans sB).size
        clear hx sB HR
        go_wp2_with (at_builtin; refine El.wpList_append_own (v := u3) typedS rfl (.tmp 18) (.tmp 24) rfl (by go_simp) HR3.out ⟨wr.heap.size, 0, none⟩ 1 1 (by go_simp) [.string x.2] [x.2] (fun _ => False) (El.ownIn_one (E := sEl) rfl) rfl (fun j u hu => El.row_cells HRW.out j u hu) (fun b hb => hb.2) (fun b hb => hb.elim) HLL.out ?_; intro v7 w7 ho7 hk7; have HO7 := Lib.hid ho7; have HK7 := Lib.hid hk7; clear ho7 hk7)
        refine ⟨⟨k + 1, by omega, by go_num, ?_, El.keep_new HS3.out HK7.out (fun g hg => (HR3.out.base hg).1.1)⟩, by simp [intOf]; omega⟩
        rw [HTK.out]
        refine HO7.out.mono fun b _ hb => ?_
        have := HWB.out
        rcases hb with hb | hb | hb
        · exact hb.1
        · exact hb.elim
        · omega
      · obtain rfl : k = m := by omega
        have hfin := HR.out
        rw [List.take_of_length_le (by rw [HM.out]; exact Nat.le_refl _)] at hfin
        have HF := Lib.hid hfin.rd
        clear hfin HR
        go_wp2_with fail
        refine (KT.out _ _ _ HF.out).mono ?_
        rintro e W2 ⟨rfl, s2⟩
        have HS2 := Lib.hid ((HS1.out.trans HS.out).trans s2)
        clear s2
        go_wp2_with fail
        refine (KN.out _ HS2.out).mono ?_
        rintro e W3 ⟨rfl, s3⟩
        go_wp2
        go_ret
        exact ⟨rfl, HS2.out.trans s3⟩

/-! ## Runes -/
theorem run_in {q : Nat} (hv : q < 55296 ∨ (57344 ≤ q ∧ q ≤ 1114111)) (h : inR q = true) : ∀ b ∈ Lib.encodeRune (q : Int), inB b = true := by
  intro b hb
  by_cases c : q < 128
  · have e : inB (UInt8.ofNat q) = true := by
      unfold inR at h
      rw [decide_eq_false (by omega), Bool.false_or] at h
      exact h
    rw [enc_list, enc1 q c] at hb
    simp at hb
    rw [hb]
    exact e
  · have hd := dec_enc q hv []
    rw [List.append_nil] at hd
    rcases dec_bytes (Lib.encodeRune (q : Int)) with ⟨h1, h2⟩ | ⟨_, _, _, h4⟩
    · rw [hd] at h2
      have := congrArg Prod.fst h2
      simp only [] at this
      omega
    · rw [hd] at h4
      simp only [List.take_length] at h4
      have := h4 b hb
      unfold inB
      rw [decide_eq_true this]
      rfl
theorem run_out {q : Nat} (h : inR q = false) : ∃ c, Lib.encodeRune (q : Int) = [c] ∧ inB c = false := by
  unfold inR at h
  rw [Bool.or_eq_false_iff, decide_eq_false_iff_not] at h
  exact ⟨UInt8.ofNat q, by rw [enc_list, enc1 q (by omega)], h.2⟩
theorem findS_one {l : List UInt8} (h : addrN l ≠ 0) (hs : l.length < addrN l + 7) : findS l = [strL (l.take (addrN l))] := by
  unfold findS findL
  rw [spots_one h hs]
  simp [cutL]
theorem trim_one (t : List UInt8) : ∀ k, 1 ≤ k → 1 ≤ trimK (97 :: t) k
  | 0, h => by omega
  | 1, _ => by
    unfold trimK
    rw [if_neg (by simp [badT, endL])]
    exact Nat.le_refl _
  | k + 2, _ => by
    unfold trimK
    split
    · exact trim_one t (k + 1) (by omega)
    · omega
theorem addr_ge (t : List UInt8) : 7 ≤ addrN (ftpL ++ 97 :: t) := by
  have hd : (ftpL ++ 97 :: t).drop (schN (ftpL ++ 97 :: t)) = 97 :: t := by rw [sch_ftp]; rfl
  have hw : (97 :: t).takeWhile inB = 97 :: t.takeWhile inB := by rw [List.takeWhile_cons, if_pos (by decide)]
  have h1 : 1 ≤ tailN ((97 :: t).takeWhile inB) := by
    rw [hw]
    exact trim_one _ _ (by simp)
  unfold addrN
  rw [hd, sch_ftp, if_neg (by omega), if_neg (by omega)]
  omega
theorem addr_runIn {E : List UInt8} (h : ∀ b ∈ E, inB b = true) : addrN (ftpL ++ (97 :: E ++ [98])) = (ftpL ++ (97 :: E ++ [98])).length := by
  have hall : ∀ b ∈ (97 :: E ++ [98] : List UInt8), inB b = true := by
    intro b hb
    rcases List.mem_append.1 hb with hb | hb
    · rcases List.mem_cons.1 hb with hb | hb
      · rw [hb]; decide
      · exact h b hb
    · obtain rfl : b = 98 := by simpa using hb
      decide
  rw [addr_of (k := (97 :: E ++ [98] : List UInt8).length) (sch_ftp _) (by decide) (by simp) (by rw [takeWhile_all hall, List.take_length]) (Nat.le_refl _) (by
    rw [List.take_length]
    unfold badT
    rw [List.getLast?_append]
    simp [endL])]
  simp [List.length_append]
theorem addr_runOut {c : UInt8} (h : inB c = false) : addrN (ftpL ++ (97 :: c :: [98])) = 7 := by
  rw [addr_of (k := 1) (sch_ftp _) (by decide) (by decide) (by
    have := takeWhile_end h [98] (l := [97]) (by intro b hb; obtain rfl : b = 97 := by simpa using hb
                                                 decide)
    exact this) (by simp) (by simp [badT, endL])]
  rfl
def ftpA : ByteArray := ⟨#[102, 116, 112, 58, 47, 47, 97]⟩
theorem ftpA_list : ftpA.data.toList = ftpL ++ [97] := rfl
theorem list_app (a b : ByteArray) : (a ++ b).data.toList = a.data.toList ++ b.data.toList := by
  rw [ByteArray.data_append, Array.toList_append]
theorem rn_in {q : Nat} (hv : q < 55296 ∨ (57344 ≤ q ∧ q ≤ 1114111)) (h : inR q = true) : findS ((ftpA ++ strL (Lib.encodeRune (q : Int))) ++ ⟨#[98]⟩).data.toList = [(ftpA ++ strL (Lib.encodeRune (q : Int))) ++ ⟨#[98]⟩] := by
  have e : ((ftpA ++ strL (Lib.encodeRune (q : Int))) ++ ⟨#[98]⟩).data.toList = ftpL ++ (97 :: Lib.encodeRune (q : Int) ++ [98]) := by
    rw [list_app, list_app, strL_list, ftpA_list]
    simp
  have ha := addr_runIn (run_in hv h)
  have h4 := (enc_len4 (q : Int)).2
  rw [findS_one (by rw [e, ha]; simp [ftpL]) (by rw [e, ha]; omega), e, ha, List.take_length, ← e, strL_self]
theorem rn_out {q : Nat} (h : inR q = false) : findS ((ftpA ++ strL (Lib.encodeRune (q : Int))) ++ ⟨#[98]⟩).data.toList = [ftpA] := by
  obtain ⟨c, hc, hin⟩ := run_out h
  have e : ((ftpA ++ strL (Lib.encodeRune (q : Int))) ++ ⟨#[98]⟩).data.toList = ftpL ++ (97 :: c :: [98]) := by
    rw [list_app, list_app, strL_list, ftpA_list, hc]
    rfl
  have ha := addr_runOut hin
  rw [findS_one (by rw [e, ha]; decide) (by rw [e, ha]; simp [ftpL]), e, ha]
  rfl
theorem rn_own {q : Nat} : findS (ftpA ++ strL (Lib.encodeRune (q : Int))).data.toList = [strL ((ftpA ++ strL (Lib.encodeRune (q : Int))).data.toList.take (addrN (ftpA ++ strL (Lib.encodeRune (q : Int))).data.toList))] := by
  have e : (ftpA ++ strL (Lib.encodeRune (q : Int))).data.toList = ftpL ++ 97 :: Lib.encodeRune (q : Int) := by
    rw [list_app, strL_list, ftpA_list]
    simp
  have ha := addr_ge (Lib.encodeRune (q : Int))
  have h4 := (enc_len4 (q : Int)).2
  rw [e]
  exact findS_one (by omega) (by rw [List.length_append, List.length_cons]; have : ftpL.length = 6 := rfl; omega)
/-- finds of one string, laid just before. -/
theorem finds_one {s x : ByteArray} (hs : s.size ≤ 10000000) (h : findS s.data.toList = [x]) (w : World) : Calls Tryd.prog 25 #[.string s, .slice (some ⟨w.heap.size, 0, none⟩) 1 1] (w.alloc (.cells #[.string x] 9)) fun e w' => e = .returned (.bool true) ∧ Sees w w' := by
  refine (finds_true s hs _ (fun _ => True) _ ?_).mono (fun e w' hh => ⟨hh.1, ((Sees.refl w).alloc _).trans hh.2⟩)
  rw [h]
  exact rd_block (E := sEl) (heap_alloc_new w _) (relIn_one (E := sEl) (s_rel _ _ x)) trivial rfl
set_option maxHeartbeats 8000000 in
set_option maxRecDepth 100000 in
theorem linksRunes_any (first : Int) (h0 : -2147483648 ≤ first) (h1 : first ≤ 2147483647) (w : World) (hst : Std w) (ht : Tabs w) :
    Calls Tryd.prog 5 #[.int .i32 first] w fun e w' => e = .returned (.bool true) ∧ Sees w w' := by
  have KN := Lib.hid (fun W (hs : Sees w W) => lknown_any W (hst.sees hs) (ht.sees hs))
  clear hst ht
  go_enter Tryd.func5, Tryd.ntmps5
  go_wp2_with fail
  go_loopw [3] (fun i W => ∃ k : Nat, k ≤ 60 ∧ i = .int .i64 k ∧ Sees w W) (fun i _ => 60 - (intOf i).toNat)
  case atStart => exact ⟨0, by omega, rfl, Sees.refl _⟩
  case round =>
    obtain ⟨k, hk, rfl, hS⟩ := hrel
    have HS := Lib.hid hS
    clear hS
    by_cases hlt : k < 60
    · have hlt2 : (k : Int) < 60 := by omega
      obtain ⟨r, hr⟩ : ∃ r, r = IntKind.i32.wrap (first + (k : Int)) := ⟨_, rfl⟩
      have hwk : IntKind.i32.wrap (k : Int) = (k : Int) := by unfold IntKind.wrap; simp [IntKind.signed, IntKind.bits]; omega
      have hr1 : IntKind.i32.wrap (first + (k : Int)) = r := hr.symm
      have hr2 : wrap32 (first + (k : Int)) = r := (IntWalk.i32_left _).symm.trans hr1
      clear hr
      rcases Bool.eq_false_or_eq_true (decide (r < 0)) with c1 | c1
      · go_wp2_with fail
        exact ⟨⟨k + 1, by omega, by go_num, HS.out⟩, by simp [intOf]; omega⟩
      rcases Bool.eq_false_or_eq_true (decide (r > 1114111)) with c2 | c2
      · have d2 : 1114111 < r := of_decide_eq_true c2
        go_wp2_with fail
        exact ⟨⟨k + 1, by omega, by go_num, HS.out⟩, by simp [intOf]; omega⟩
      have d2 : ¬ (1114111 < r) := of_decide_eq_false c2
      by_cases c3 : 55296 ≤ r ∧ r ≤ 57343
      · have e1 : decide (r ≥ 55296) = true := decide_eq_true c3.1
        have e2 : decide (r ≤ 57343) = true := decide_eq_true c3.2
        have e3 : 55296 ≤ r := c3.1
        have e4 : r ≤ 57343 := c3.2
        clear c3
        go_wp2_with fail
        exact ⟨⟨k + 1, by omega, by go_num, HS.out⟩, by simp [intOf]; omega⟩
      obtain ⟨q, rfl⟩ : ∃ q : Nat, r = q := ⟨r.toNat, by have := of_decide_eq_false c1; omega⟩
      have hv : q < 55296 ∨ (57344 ≤ q ∧ q ≤ 1114111) := by omega
      have HV := Lib.hid hv
      have hcv : ∀ W : World, (convert 59 9 (.slice (some ⟨W.heap.size, 0, none⟩) 1 1)).run Tryd.prog (W.alloc (.cells #[.int .i32 (q : Int)] 21)) = .ok (.string (strL (Lib.encodeRune (q : Int)))) (W.alloc (.cells #[.int .i32 (q : Int)] 21)) := fun W => by rw [conv_rune, enc_rune]
      have HA := Lib.hid (rn_own (q := q))
      have HI := Lib.hid (fun h => rn_in hv h)
      have HX := Lib.hid (fun h => rn_out (q := q) h)
      obtain ⟨X, hXe⟩ : ∃ X, X = strL (Lib.encodeRune (q : Int)) := ⟨_, rfl⟩
      rw [← hXe] at hcv HA HI HX
      have hw4 := (enc_len4 (q : Int)).2
      have hxs : X.size ≤ 4 := by rw [hXe, strL_size]; exact hw4
      have hsz1 : (ftpA ++ X).size ≤ 10000000 := by rw [ByteArray.size_append]; have : ftpA.size = 7 := rfl; omega
      have hsz2 : ((ftpA ++ X) ++ (⟨#[98]⟩ : ByteArray)).size ≤ 10000000 := by rw [ByteArray.size_append, ByteArray.size_append]; have : ftpA.size = 7 := rfl; have : (⟨#[98]⟩ : ByteArray).size = 1 := rfl; omega
      have KI := Lib.hid (fun W => inside_any q (by omega) W)
      have KA := Lib.hid (fun W => address_any (ftpA ++ X) hsz1 W)
      obtain ⟨Y, hY⟩ : ∃ Y, Y = strL ((ftpA ++ X).data.toList.take (addrN (ftpA ++ X).data.toList)) := ⟨_, rfl⟩
      rw [← hY] at KA HA
      have K2 := Lib.hid (fun W => finds_one hsz1 HA.out W)
      have K1I := Lib.hid (fun h W => finds_one hsz2 (HI.out h) W)
      have K1O := Lib.hid (fun h W => finds_one hsz2 (HX.out h) W)
      obtain ⟨B, hB⟩ : ∃ B, B = inR q := ⟨_, rfl⟩
      rw [← hB] at KI K1I K1O
      rw [show ftpA = ⟨#[102, 116, 112, 58, 47, 47, 97]⟩ from rfl] at *
      clear hXe hv hw4 c3 HA HI HX hY hB hsz1 hsz2
      rcases HV.out with hA | hB
      all_goals
        first
        | have f1 : decide ((q : Int) ≥ 55296) = false := decide_eq_false (by omega)
          have f2 : ¬ (55296 ≤ (q : Int)) := by omega
          have f3 : ¬ (55296 ≤ q) := by omega
        | have f1 : decide ((q : Int) ≤ 57343) = false := decide_eq_false (by omega)
          have f2 : ¬ ((q : Int) ≤ 57343) := by omega
          have f3 : ¬ (q ≤ 57343) := by omega
          have f6 : decide ((q : Int) ≥ 55296) = true := decide_eq_true (by omega)
          have f7 : 55296 ≤ (q : Int) := by omega
          have f8 : 55296 ≤ q := by omega
        have f4 : ¬ ((q : Int) < 0) := by omega
        have f5 : ¬ (1114111 < q) := by omega
        go_wp2_with fail
        refine (KI.out _).mono ?_
        rintro e W2 ⟨rfl, s2⟩
        have HS2 := Lib.hid ((HS.out.alloc _).trans s2)
        clear s2 hcv
        cases B
        all_goals
          go_wp2_with fail
          first
          | refine (K1O.out (by simp) _).mono ?_
          | refine (K1I.out (by simp) _).mono ?_
          rintro e W3 ⟨rfl, s3⟩
          have HS3 := Lib.hid (HS2.out.trans s3)
          clear s3
          go_wp2_with fail
          refine (KA.out _).mono ?_
          rintro e W4 ⟨rfl, s4⟩
          have HS4 := Lib.hid (HS3.out.trans s4)
          clear s4
          go_wp2_with fail
          refine (K2.out _).mono ?_
          rintro e W5 ⟨rfl, s5⟩
          have HS5 := Lib.hid (HS4.out.trans s5)
          clear s5
          go_wp2
          exact ⟨⟨k + 1, by omega, by go_num, HS5.out⟩, by simp [intOf]; omega⟩
    · have hlt2 : ¬ ((k : Int) < 60) := by omega
      go_wp2_with fail
      refine (KN.out _ HS.out).mono ?_
      rintro e W2 ⟨rfl, s2⟩
      have HS2 := Lib.hid (HS.out.trans s2)
      clear s2
      go_wp2
      go_ret
      exact ⟨rfl, HS2.out⟩
end Go.Proofs.YtfdolhppbimbmaaDoor
