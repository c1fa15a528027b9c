/- The reference's Parse (26). No condition. -/
import Derived.Test.YtmmofcfhenjffaaDoorTiZ
import Derived.IntWalk
namespace Go.Proofs.YtmmofcfhenjffaaDoor
set_option linter.unusedVariables false
set_option linter.unusedSimpArgs false
open Go.RowKit

theorem linkErr_b (id text : ByteArray) : linkErr id.data.toList text.data.toList = if decide ((text.size : Int) > 512) || decide ((id.size : Int) > 64) then 5 else if gr [] text.data.toList && gr [58, 59] id.data.toList then 0 else 6 := by
  unfold linkErr
  rw [Lib.size_eq, Lib.size_eq]
  by_cases c : 512 < text.data.toList.length ∨ 64 < id.data.toList.length
  · have e : (decide ((text.data.toList.length : Int) > 512) || decide ((id.data.toList.length : Int) > 64)) = true := by
      rw [Bool.or_eq_true, decide_eq_true_eq, decide_eq_true_eq]; omega
    rw [if_pos c, e]
    rfl
  · have e : (decide ((text.data.toList.length : Int) > 512) || decide ((id.data.toList.length : Int) > 64)) = false := by
      rw [Bool.or_eq_false_iff, decide_eq_false_iff_not, decide_eq_false_iff_not]; omega
    rw [if_neg c, e]
    rfl
theorem isDig_b (s : ByteArray) (k : Nat) : isDig (s.data.toList.getD k 0) = (!decide (bAt s k < 48) && !decide (bAt s k > 57)) := by
  unfold isDig bAt
  rw [Bool.eq_iff_iff]
  simp only [Bool.and_eq_true, decide_eq_true_eq, Bool.not_eq_true', decide_eq_false_iff_not]
  omega
theorem numb3_take (l : List UInt8) (k : Nat) (h : k < l.length) : numb3 (l.take (k + 1)) = min 1000 (10 * numb3 (l.take k) + ((l.getD k 0).toNat - 48)) := by
  unfold numb3
  rw [List.take_add_one, List.foldl_append, List.getElem?_eq_getElem h, List.getD_eq_getElem?_getD, List.getElem?_eq_getElem h]
  rfl
theorem numb3_le (l : List UInt8) : numb3 l ≤ 1000 := by rw [numb3_eq]; exact Nat.min_le_left _ _
/-- What a text says, by what before gives and the number that is found. -/
def parseB (h t : List UInt8) (b : Bool) (n : Nat) : Int × List UInt8 × List UInt8 × Int := if b = false ∨ h = [] then (0, [], [], 6) else restT n t
theorem restT_min (n : Nat) (t : List UInt8) : restT (min 1000 n) t = restT n t := by
  by_cases h : n ≤ 1000
  · rw [Nat.min_eq_right h]
  · rw [Nat.min_eq_left (by omega)]
    unfold restT
    rw [if_neg (by omega), if_pos (by omega), if_neg (by omega), if_pos (by omega)]
theorem befV_of (s : ByteArray) : ∃ (H T : ByteArray) (b : Bool), befV s 59 = .tuple #[.string H, .string T, .bool b] ∧ H.size ≤ s.size ∧ T.size ≤ s.size ∧ ((∀ j < H.size, isDig (H.data.toList.getD j 0) = true) → parseT s.data.toList = parseB H.data.toList T.data.toList b (numb3 H.data.toList)) ∧ (∀ j < H.size, isDig (H.data.toList.getD j 0) = false → parseT s.data.toList = (0, [], [], 6)) := by
  unfold befV parseT numR
  cases hb : bef 59 s.data.toList with
  | none =>
    exact ⟨s, ⟨#[]⟩, false, rfl, Nat.le_refl _, Nat.zero_le _, fun _ => by simp [parseB], fun _ _ _ => rfl⟩
  | some p =>
    obtain ⟨h, t⟩ := p
    have hl := congrArg List.length (bef_some hb).1
    rw [List.length_append, List.length_cons, ← Lib.size_eq] at hl
    refine ⟨⟨h.toArray⟩, ⟨t.toArray⟩, true, rfl, by rw [Lib.size_eq]; simp only; omega, by rw [Lib.size_eq]; simp only; omega, fun hd => ?_, fun j hj hd => ?_⟩
    · rw [Lib.size_eq] at hd
      simp only at hd ⊢
      have hall : ∀ c ∈ h, isDig c = true := fun c hc => by
        obtain ⟨j, hj, rfl⟩ := List.mem_iff_getElem.1 hc
        have := hd j hj
        rw [List.getD_eq_getElem?_getD, List.getElem?_eq_getElem hj] at this
        exact this
      unfold parseB
      by_cases hn : h = []
      · rw [if_neg (by simp [hn]), if_pos (.inr hn)]
      · rw [if_pos ⟨hn, hall⟩, if_neg (by simp [hn]), numb3_eq, restT_min]
    · rw [Lib.size_eq] at hj
      simp only at hj hd ⊢
      rw [if_neg]
      rintro ⟨_, hall⟩
      have := hall h[j] (List.getElem_mem hj)
      rw [List.getD_eq_getElem?_getD, List.getElem?_eq_getElem hj] at hd
      rw [show h[j] = (some h[j]).getD 0 from rfl, hd] at this
      cases this
theorem hasP3 (s : ByteArray) (a b c : UInt8) (h : 3 ≤ s.size) : Lib.hasPrefix s.data.toList [a, b, c] = ((s.extract 0 3).toList == [a, b, c]) := by
  rw [Lib.toList_data, Lib.extract_from_zero]
  rw [Lib.size_eq] at h
  match s.data.toList, h with
  | x :: y :: z :: t, _ =>
    simp only [Lib.hasPrefix, List.isPrefixOf, List.take_succ_cons, List.take_zero, Bool.and_true]
    rw [Bool.eq_iff_iff]
    simp only [Bool.and_eq_true, beq_iff_eq, List.cons.injEq, and_true]
    constructor <;> (rintro ⟨rfl, rfl, rfl⟩; exact ⟨rfl, rfl, rfl⟩)
theorem preid (s : ByteArray) (h : 3 ≤ s.size) : Lib.hasPrefix s.data.toList [105, 100, 61] = ((s.extract 0 3).toList == [105, 100, 61]) := hasP3 s 105 100 61 h
theorem preid_short (s : ByteArray) (h : s.size < 3) : Lib.hasPrefix s.data.toList [105, 100, 61] = false := by
  cases hp : Lib.hasPrefix s.data.toList [105, 100, 61] with
  | false => rfl
  | true =>
    have := (List.isPrefixOf_iff_prefix.1 hp).length_le
    rw [← Lib.size_eq] at this
    simp at this
    omega
theorem bef_part (X : ByteArray) : ∃ (F G : ByteArray) (b : Bool), befV X 58 = .tuple #[.string F, .string G, .bool b] ∧ F.size ≤ X.size ∧ (G.size ≤ X.size ∧ (b = true → G.size < X.size)) ∧ (Lib.hasPrefix F.data.toList [105, 100, 61] = false → idOf (pieces 58 X.data.toList) = if b = true then idOf (pieces 58 G.data.toList) else []) ∧ (Lib.hasPrefix F.data.toList [105, 100, 61] = true → idOf (pieces 58 X.data.toList) = F.data.toList.drop 3) := by
  unfold befV
  cases hb : bef 58 X.data.toList with
  | none =>
    refine ⟨X, ⟨#[]⟩, false, rfl, Nat.le_refl _, ⟨Nat.zero_le _, fun h => by cases h⟩, fun h => ?_, fun h => ?_⟩
    · rw [pieces_no _ _ (bef_none hb), idOf, if_neg (by rw [h]; simp)]
      rfl
    · rw [pieces_no _ _ (bef_none hb), idOf, if_pos h]
  | some p =>
    obtain ⟨h, t⟩ := p
    obtain ⟨el, hn⟩ := bef_some hb
    have hl := congrArg List.length el
    rw [List.length_append, List.length_cons, ← Lib.size_eq] at hl
    refine ⟨⟨h.toArray⟩, ⟨t.toArray⟩, true, rfl, by rw [Lib.size_eq]; simp only; omega, ⟨by rw [Lib.size_eq]; simp only; omega, fun _ => by rw [Lib.size_eq]; simp only; omega⟩, fun hp => ?_, fun hp => ?_⟩
    · rw [el, pieces_app _ _ _ hn, idOf, if_neg (by simp only at hp; rw [hp]; simp)]
      rfl
    · rw [el, pieces_app _ _ _ hn, idOf, if_pos hp]
set_option maxHeartbeats 4000000 in
set_option maxRecDepth 100000 in
theorem rparse_any (s : ByteArray) (hs : s.size ≤ 1000000) (w : World) :
    Calls Tryd.prog 12 #[.string s] w fun e w' => e = .returned (saidV (parseT s.data.toList)) ∧ Sees w w' := by
  have hr := Sees.refl w
  have hs1 := hr.alloc (.cells #[.int .i64 0, .string ⟨#[]⟩, .string ⟨#[]⟩] 30)
  obtain ⟨H, R, b, hV, hHs, hRs, hyes, hno⟩ := befV_of s
  have hbe := fun W => before_any s (by omega) 59 W
  rw [hV] at hbe
  rw [show (((59 : UInt8).toNat : Nat) : Int) = 59 from rfl] at hbe
  clear hV
  obtain ⟨ans, hans⟩ : ∃ a, a = parseT s.data.toList := ⟨_, rfl⟩
  rw [← hans]
  rw [← hans] at hyes hno
  clear hans
  replace hyes := Lib.hid hyes
  replace hno := Lib.hid hno
  go_enter Tryd.func12, Tryd.ntmps12
  go_wp2_with (go_at_call 29; refine (hbe _).mono ?_)
  rintro e W1 ⟨rfl, s1⟩
  have A1 := (CmdAt.new w 0 ⟨#[]⟩ ⟨#[]⟩).sees s1
  obtain ⟨q0, q1, q2⟩ := A1.cs
  obtain ⟨f0, f1, f2⟩ := A1.fr
  have S1 := hs1.trans s1
  clear s1
  go_wp2
  go_loop [7, 8] (fun x y => ∃ k m : Nat, k ≤ H.size ∧ x = .int .i64 m ∧ y = .int .i64 k ∧ m ≤ 1000 ∧ RowKit.Hid (∀ j < k, isDig (H.data.toList.getD j 0) = true) ∧ RowKit.Hid (m = numb3 (H.data.toList.take k))) (fun _ y => H.size - (intOf y).toNat)
  case atStart => exact ⟨0, 0, by omega, rfl, rfl, by omega, Lib.hid fun j hj => by omega, Lib.hid rfl⟩
  case round =>
    obtain ⟨k, m, hk, rfl, rfl, hm1, hd, hm⟩ := hrel
    by_cases hlt : k < H.size
    · have hb := bAt_at H k hlt
      have hbr := bAt_range H k
      have hdg := isDig_b H k
      have hx0 : RowKit.Hid (bAt H k = ((H.data.toList.getD k 0).toNat : Int)) := Lib.hid rfl
      generalize bAt H k = x at hb hbr hdg hx0
      rcases Bool.eq_false_or_eq_true (decide (x < 48)) with c1 | c1
      · have hans : RowKit.Hid (ans = (0, [], [], 6)) := Lib.hid (hno.out k hlt (by rw [hdg, c1]; rfl))
        clear hdg
        go_wp2
        have hE := A1.set3 0 ⟨#[]⟩ ⟨#[]⟩
        obtain ⟨c0, c1, c2⟩ := hE.cs
        refine bodyPost_ret_by (v := .tuple #[cmd 0 ⟨#[]⟩ ⟨#[]⟩, .int .i64 6]) (by simp [results, Tryd.results12, go_sem, c0, c1, c2]) rfl ⟨by rw [hans.out], sees3 S1 (Nat.le_refl _) _ _ _⟩
      · rcases Bool.eq_false_or_eq_true (decide (x > 57)) with c2 | c2
        · have hans : RowKit.Hid (ans = (0, [], [], 6)) := Lib.hid (hno.out k hlt (by rw [hdg, c1, c2]; rfl))
          clear hdg
          go_wp2
          have hE := A1.set3 0 ⟨#[]⟩ ⟨#[]⟩
          obtain ⟨c0, c1, c2⟩ := hE.cs
          refine bodyPost_ret_by (v := .tuple #[cmd 0 ⟨#[]⟩ ⟨#[]⟩, .int .i64 6]) (by simp [results, Tryd.results12, go_sem, c0, c1, c2]) rfl ⟨by rw [hans.out], sees3 S1 (Nat.le_refl _) _ _ _⟩
        · have hdk : RowKit.Hid (isDig (H.data.toList.getD k 0) = true) := Lib.hid (by rw [hdg, c1, c2]; rfl)
          clear hdg
          have x1 : 48 ≤ x := by simpa using c1
          have x2 : x ≤ 57 := by simpa using c2
          obtain ⟨z, hz⟩ : ∃ z : Int, min (1000 : Int) (10 * (m : Int) + (x - 48)) = z := ⟨_, rfl⟩
          have hz2 : RowKit.Hid (z = ((min 1000 (10 * m + ((H.data.toList.getD k 0).toNat - 48)) : Nat) : Int)) := Lib.hid (by
            have := hx0.out
            rw [← hz]
            omega)
          have hn1 : RowKit.Hid (min 1000 (10 * m + ((H.data.toList.getD k 0).toNat - 48)) = numb3 (H.data.toList.take (k + 1))) := Lib.hid (by
            rw [numb3_take _ _ (by rw [← Lib.size_eq]; exact hlt), ← hm.out])
          have hd1 : RowKit.Hid (∀ j < k + 1, isDig (H.data.toList.getD j 0) = true) := Lib.hid (fun j hj => by
            rcases Nat.lt_or_eq_of_le (Nat.le_of_lt_succ hj) with h | rfl
            · exact hd.out j h
            · exact hdk.out)
          go_wp2
          go_round
          case rel => exact ⟨k + 1, min 1000 (10 * m + ((H.data.toList.getD k 0).toNat - 48)), by omega, by rw [hz2.out], by go_num, by omega, hd1, hn1⟩
          case measure => simp [intOf]; omega
    · obtain rfl : k = H.size := by omega
      have hans := hyes.out hd.out
      rw [← List.take_of_length_le (i := H.size) (l := H.data.toList) (by rw [← Lib.size_eq]; exact Nat.le_refl _), ← hm.out, List.take_of_length_le (by rw [← Lib.size_eq]; exact Nat.le_refl _)] at hans
      clear hm hd hyes hno
      unfold parseB at hans
      cases b
      · rw [if_pos (.inl rfl)] at hans
        go_wp2
        have hE := A1.set3 0 ⟨#[]⟩ ⟨#[]⟩
        obtain ⟨c0, c1, c2⟩ := hE.cs
        refine bodyPost_ret_by (v := .tuple #[cmd 0 ⟨#[]⟩ ⟨#[]⟩, .int .i64 6]) (by simp [results, Tryd.results12, go_sem, c0, c1, c2]) rfl ⟨by subst hans; rfl, sees3 S1 (Nat.le_refl _) _ _ _⟩
      · rcases Bool.eq_false_or_eq_true (H.toList.isEmpty) with c1 | c1
        · rw [if_pos (.inr ((ba_nil H).1 c1))] at hans
          go_wp2
          have hE := A1.set3 0 ⟨#[]⟩ ⟨#[]⟩
          obtain ⟨c0, c1, c2⟩ := hE.cs
          refine bodyPost_ret_by (v := .tuple #[cmd 0 ⟨#[]⟩ ⟨#[]⟩, .int .i64 6]) (by simp [results, Tryd.results12, go_sem, c0, c1, c2]) rfl ⟨by subst hans; rfl, sees3 S1 (Nat.le_refl _) _ _ _⟩
        · rw [if_neg (fun h => by
            rcases h with h | h
            · cases h
            · rw [(ba_nil H).2 h] at c1; cases c1)] at hans
          unfold restT at hans
          rcases Bool.eq_false_or_eq_true ((m : Int) == 0) with e0 | e0
          · rw [if_pos (.inl (by simpa using e0))] at hans
            go_wp2_with (go_at_call 11; refine (rclean_any R (by omega) _).mono ?_)
            rintro e W2 rfl s2
            have A2 := A1.sees s2
            clear q0 q1 q2 f0 f1 f2
            obtain ⟨q0, q1, q2⟩ := A2.cs
            obtain ⟨f0, f1, f2⟩ := A2.fr
            go_wp2
            have hE := A2.set3 1 ⟨#[]⟩ ⟨(cleanT R.data.toList).toArray⟩
            obtain ⟨c0, c1, c2⟩ := hE.cs
            refine bodyPost_ret_by (v := .tuple #[cmd 1 ⟨#[]⟩ ⟨(cleanT R.data.toList).toArray⟩, .int .i64 0]) (by simp [results, Tryd.results12, go_sem, c0, c1, c2]) rfl ⟨by subst hans; rfl, sees3 (S1.trans s2) (Nat.le_refl _) _ _ _⟩
          · rcases Bool.eq_false_or_eq_true ((m : Int) == 2) with e2 | e2
            · rw [if_pos (.inr (by have := beq_iff_eq.1 e2; omega))] at hans
              go_wp2_with (go_at_call 11; refine (rclean_any R (by omega) _).mono ?_)
              rintro e W2 rfl s2
              have A2 := A1.sees s2
              clear q0 q1 q2 f0 f1 f2
              obtain ⟨q0, q1, q2⟩ := A2.cs
              obtain ⟨f0, f1, f2⟩ := A2.fr
              go_wp2
              have hE := A2.set3 1 ⟨#[]⟩ ⟨(cleanT R.data.toList).toArray⟩
              obtain ⟨c0, c1, c2⟩ := hE.cs
              refine bodyPost_ret_by (v := .tuple #[cmd 1 ⟨#[]⟩ ⟨(cleanT R.data.toList).toArray⟩, .int .i64 0]) (by simp [results, Tryd.results12, go_sem, c0, c1, c2]) rfl ⟨by subst hans; rfl, sees3 (S1.trans s2) (Nat.le_refl _) _ _ _⟩
            · rw [if_neg (fun h => by
                have h1 := beq_eq_false_iff_ne.1 e0
                have h2 := beq_eq_false_iff_ne.1 e2
                omega)] at hans
              rcases Bool.eq_false_or_eq_true ((m : Int) != 8) with e8 | e8
              · rw [if_pos (by have := bne_iff_ne.1 e8; omega)] at hans
                go_wp2
                have hE := A1.set3 0 ⟨#[]⟩ ⟨#[]⟩
                obtain ⟨c0, c1, c2⟩ := hE.cs
                refine bodyPost_ret_by (v := .tuple #[cmd 0 ⟨#[]⟩ ⟨#[]⟩, .int .i64 9]) (by simp [results, Tryd.results12, go_sem, c0, c1, c2]) rfl ⟨by subst hans; rfl, sees3 S1 (Nat.le_refl _) _ _ _⟩
              · rw [if_neg (fun h => by
                  have : ((m : Int) != 8) = true := bne_iff_ne.2 (by omega)
                  rw [this] at e8
                  cases e8)] at hans
                have hbe2 := fun W => before_any R (by omega) 59 W
                rw [show (((59 : UInt8).toNat : Nat) : Int) = 59 from rfl] at hbe2
                unfold befV at hbe2
                cases hb2 : bef 59 R.data.toList with
                | none =>
                  rw [hb2] at hans hbe2
                  simp only at hans hbe2
                  go_wp2_with (go_at_call 29; refine (hbe2 _).mono ?_)
                  rintro e W2 rfl s2
                  have A2 := A1.sees s2
                  clear q0 q1 q2 f0 f1 f2
                  obtain ⟨q0, q1, q2⟩ := A2.cs
                  obtain ⟨f0, f1, f2⟩ := A2.fr
                  go_wp2
                  have hE := A2.set3 0 ⟨#[]⟩ ⟨#[]⟩
                  obtain ⟨c0, c1, c2⟩ := hE.cs
                  refine bodyPost_ret_by (v := .tuple #[cmd 0 ⟨#[]⟩ ⟨#[]⟩, .int .i64 6]) (by simp [results, Tryd.results12, go_sem, c0, c1, c2]) rfl ⟨by subst hans; rfl, sees3 (S1.trans s2) (Nat.le_refl _) _ _ _⟩
                | some pt =>
                  obtain ⟨ps, text⟩ := pt
                  have hlen := congrArg List.length (bef_some hb2).1
                  rw [List.length_append, List.length_cons, ← Lib.size_eq] at hlen
                  rw [hb2] at hans hbe2
                  simp only at hans hbe2
                  obtain ⟨P, hP⟩ : ∃ P : ByteArray, P = ⟨ps.toArray⟩ := ⟨_, rfl⟩
                  obtain ⟨T, hT⟩ : ∃ T : ByteArray, T = ⟨text.toArray⟩ := ⟨_, rfl⟩
                  have hPd : RowKit.Hid (P.data.toList = ps) := Lib.hid (by rw [hP])
                  have hTh : RowKit.Hid (T.data.toList = text) := Lib.hid (by rw [hT])
                  have hPs : P.size ≤ 1000000 := by rw [Lib.size_eq, hPd.out]; omega
                  have hTs : T.size ≤ 1000000 := by rw [Lib.size_eq, hTh.out]; omega
                  rw [← hP, ← hT] at hbe2
                  clear hP hT hb2 hlen
                  go_wp2_with (go_at_call 29; refine (hbe2 _).mono ?_)
                  rintro e W2 rfl s2
                  have A2 := A1.sees s2
                  have S2 := S1.trans s2
                  clear q0 q1 q2 f0 f1 f2 hbe2
                  obtain ⟨q0, q1, q2⟩ := A2.cs
                  obtain ⟨f0, f1, f2⟩ := A2.fr
                  rcases Bool.eq_false_or_eq_true (T.toList.isEmpty) with t1 | t1
                  · rw [if_pos (by rw [← hTh.out]; exact (ba_nil T).1 t1)] at hans
                    go_wp2
                    have hE := A2.set3 3 ⟨#[]⟩ ⟨#[]⟩
                    obtain ⟨c0, c1, c2⟩ := hE.cs
                    refine bodyPost_ret_by (v := .tuple #[cmd 3 ⟨#[]⟩ ⟨#[]⟩, .int .i64 0]) (by simp [results, Tryd.results12, go_sem, c0, c1, c2]) rfl ⟨by subst hans; rfl, sees3 S2 (Nat.le_refl _) _ _ _⟩
                  · rw [if_neg (by rw [← hTh.out]; intro h; rw [(ba_nil T).2 h] at t1; cases t1)] at hans
                    replace hans := Lib.hid hans
                    have B2 := CmdAt.new W2 2 ⟨#[]⟩ T
                    have S2c := (Sees.refl W2).alloc (.cells #[.int .i64 2, .string ⟨#[]⟩, .string T] 30)
                    have A3 := A2.sees S2c
                    have S3 := S2.trans S2c
                    have hgb : RowKit.Hid (w.heap.size < W2.heap.size ∧ w.heap.size ≤ W2.heap.size) := Lib.hid ⟨A2.lt, S2.size⟩
                    clear S2c
                    replace A3 := Lib.hid A3
                    replace B2 := Lib.hid B2
                    replace S3 := Lib.hid S3
                    clear q0 q1 q2 f0 f1 f2 A2 A1 S1 s2 hs1 hr S2
                    go_wp2
                    go_loopw [9, 12] (fun x y W => ∃ (X : ByteArray) (more : Bool), x = .string X ∧ y = .bool more ∧ X.size ≤ 1000000 ∧ RowKit.Hid (CmdAt W W2.heap.size 2 ⟨#[]⟩ T) ∧ RowKit.Hid (CmdAt W w.heap.size 0 ⟨#[]⟩ ⟨#[]⟩) ∧ RowKit.Hid (Sees w W) ∧ RowKit.Hid (idOf (pieces 58 ps) = if more = true then idOf (pieces 58 X.data.toList) else [])) (fun x y _ => match x, y with | .string X, .bool true => X.size + 1 | _, _ => 0)
                    case atStart =>
                      exact ⟨P, true, rfl, rfl, hPs, B2, A3, S3, Lib.hid (by rw [hPd.out]; rfl)⟩
                    case round =>
                      obtain ⟨X, more, rfl, rfl, hXs, hB, hA, hS, hm⟩ := hrel
                      cases more
                      case false =>
                        have hIs : RowKit.Hid ((⟨#[]⟩ : ByteArray).size ≤ 1000000) := Lib.hid (by decide)
                        have hm2 : RowKit.Hid (idOf (pieces 58 ps) = []) := Lib.hid hm.out
                        clear hm hXs
                        have hIh : RowKit.Hid ((⟨#[]⟩ : ByteArray).data.toList = idOf (pieces 58 ps)) := Lib.hid (by rw [hm2.out])
                        have hLE : RowKit.Hid (∀ x, x = (if decide ((T.size : Int) > 512) || decide (((⟨#[]⟩ : ByteArray).size : Int) > 64) then (5 : Int) else if gr [] T.data.toList && gr [58, 59] (⟨#[]⟩ : ByteArray).data.toList then 0 else 6) → linkErr (idOf (pieces 58 ps)) text = x) := Lib.hid (fun x hx => by rw [hx, ← hIh.out, ← hTh.out]; exact linkErr_b _ _)
                        have hF := hLE.out
                        clear hLE
                        have hg1 := fun W => rgraphic_text T (by omega) W
                        have hg2 := fun W => rgraphic_id (⟨#[]⟩ : ByteArray) (by have := hIs.out; omega) W
                        obtain ⟨y0, y1, y2⟩ := hB.out.cs
                        obtain ⟨f0, f1, f2⟩ := hA.out.fr
                        obtain ⟨d0, d1, d2⟩ := hA.out.cs
                        rcases Bool.eq_false_or_eq_true (decide ((T.size : Int) > 512)) with c1 | c1
                        · have hLE := Lib.hid (hF 5 (by rw [c1]; rfl))
                          clear hF hg1 hg2
                          go_wp2
                          have hE := hA.out.set3 0 ⟨#[]⟩ ⟨#[]⟩
                          obtain ⟨c0, c1, c2⟩ := hE.cs
                          refine bodyPost_ret_by (v := .tuple #[cmd 0 ⟨#[]⟩ ⟨#[]⟩, .int .i64 5]) (by simp [results, Tryd.results12, go_sem, c0, c1, c2]) rfl ⟨by rw [hans.out, hLE.out]; rfl, sees3 hS.out (Nat.le_refl _) _ _ _⟩
                        · rcases Bool.eq_false_or_eq_true (decide (((⟨#[]⟩ : ByteArray).size : Int) > 64)) with c2 | c2
                          · exact absurd c2 (by decide)
                          · generalize gr [] T.data.toList = g1 at hg1 hF
                            generalize gr [58, 59] (⟨#[]⟩ : ByteArray).data.toList = g2 at hg2 hF
                            cases g1
                            · have hLE := Lib.hid (hF 6 (by rw [c1, c2]; cases g2 <;> rfl))
                              clear hF hg2
                              go_wp2_with fail
                              refine (hg1 _).mono ?_
                              rintro e W9 ⟨rfl, rfl⟩
                              go_wp2
                              have hE := hA.out.set3 0 ⟨#[]⟩ ⟨#[]⟩
                              obtain ⟨c0, c1, c2⟩ := hE.cs
                              refine bodyPost_ret_by (v := .tuple #[cmd 0 ⟨#[]⟩ ⟨#[]⟩, .int .i64 6]) (by simp [results, Tryd.results12, go_sem, c0, c1, c2]) rfl ⟨by rw [hans.out, hLE.out]; rfl, sees3 hS.out (Nat.le_refl _) _ _ _⟩
                            · cases g2
                              · have hLE := Lib.hid (hF 6 (by rw [c1, c2]; rfl))
                                clear hF
                                go_wp2_with fail
                                refine (hg1 _).mono ?_
                                rintro e W9 ⟨rfl, rfl⟩
                                go_wp2_with fail
                                refine (hg2 _).mono ?_
                                rintro e W9 ⟨rfl, rfl⟩
                                go_wp2
                                have hE := hA.out.set3 0 ⟨#[]⟩ ⟨#[]⟩
                                obtain ⟨c0, c1, c2⟩ := hE.cs
                                refine bodyPost_ret_by (v := .tuple #[cmd 0 ⟨#[]⟩ ⟨#[]⟩, .int .i64 6]) (by simp [results, Tryd.results12, go_sem, c0, c1, c2]) rfl ⟨by rw [hans.out, hLE.out]; rfl, sees3 hS.out (Nat.le_refl _) _ _ _⟩
                              · have hLE := Lib.hid (hF 0 (by rw [c1, c2]; rfl))
                                clear hF
                                go_wp2_with fail
                                refine (hg1 _).mono ?_
                                rintro e W9 ⟨rfl, rfl⟩
                                go_wp2_with fail
                                refine (hg2 _).mono ?_
                                rintro e W9 ⟨rfl, rfl⟩
                                go_wp2
                                have hE := hA.out.set3 2 (⟨#[]⟩ : ByteArray) T
                                obtain ⟨c0, c1, c2⟩ := hE.cs
                                refine bodyPost_ret_by (v := .tuple #[cmd 2 ⟨#[]⟩ T, .int .i64 0]) (by simp [results, Tryd.results12, go_sem, c0, c1, c2]) rfl ⟨by rw [hans.out, hLE.out, if_pos rfl, ← hIh.out, ← hTh.out], sees3 hS.out (Nat.le_refl _) _ _ _⟩
                      case true =>
                        have hm1 : RowKit.Hid (idOf (pieces 58 ps) = idOf (pieces 58 X.data.toList)) := Lib.hid hm.out
                        clear hm
                        obtain ⟨F, G, b, hbV, hF, hG, hnx, hid⟩ := bef_part X
                        have hbe3 := fun W => before_any X (by omega) 58 W
                        rw [hbV, show (((58 : UInt8).toNat : Nat) : Int) = 58 from rfl] at hbe3
                        clear hbV
                        go_wp2_with (go_at_call 29; refine (hbe3 _).mono ?_)
                        rintro e W4 ⟨rfl, s4⟩
                        replace hB := Lib.hid (hB.out.sees s4)
                        replace hA := Lib.hid (hA.out.sees s4)
                        replace hS := Lib.hid (hS.out.trans s4)
                        clear s4 hbe3
                        replace hG := Lib.hid hG
                        rcases Nat.lt_or_ge F.size 3 with h3 | h3
                        · have l1 : decide ((F.size : Int) ≥ 3) = false := decide_eq_false (by omega)
                          have l2 : decide ((3 : Int) ≤ (F.size : Int)) = false := l1
                          have hnx2 := Lib.hid (hnx (preid_short F h3))
                          clear hnx hid h3
                          go_wp2
                          go_roundw
                          case rel => exact ⟨G, b, rfl, rfl, by have := hG.out.1; omega, hB, hA, hS, Lib.hid (by rw [hm1.out]; exact hnx2.out)⟩
                          case measure =>
                            obtain ⟨hG1, hG2⟩ := hG.out
                            cases b
                            · simp
                            · have := hG2 rfl
                              simp
                              omega
                        · have l1 : decide ((F.size : Int) ≥ 3) = true := decide_eq_true (by omega)
                          have l2 : decide ((3 : Int) ≤ (F.size : Int)) = true := l1
                          have hp := preid F h3
                          have hc3 : ∀ W, (Instr.sliceAt 9 (.string F) none (some (.int .i64 3)) none).run Tryd.prog W = .ok (.string (F.extract 0 3)) W := fun W => cut_head F .i64 3 h3 W
                          have hc4 : ∀ W, (Instr.sliceAt 9 (.string F) (some (.int .i64 3)) none none).run Tryd.prog W = .ok (.string (F.extract 3 F.size)) W := fun W => cut_end F .i64 3 h3 W
                          rcases Bool.eq_false_or_eq_true (Lib.hasPrefix F.data.toList [105, 100, 61]) with hq | hq
                          · obtain ⟨I, hIe⟩ : ∃ I : ByteArray, I = F.extract 3 F.size := ⟨_, rfl⟩
                            have hI : RowKit.Hid (I.data.toList = idOf (pieces 58 ps)) := Lib.hid (by rw [hm1.out, hid hq, hIe, Lib.extract_to_end])
                            have hIs : RowKit.Hid (I.size ≤ 1000000) := Lib.hid (by rw [hIe, ByteArray.size_extract]; omega)
                            rw [hq] at hp
                            replace hp := hp.symm
                            rw [← hIe] at hc4
                            clear hIe hq hnx hid h3
                            obtain ⟨e0, e1, e2⟩ := hB.out.cs
                            obtain ⟨e3, e4, e5⟩ := hB.out.fr
                            replace hB := Lib.hid (hB.out.set1 I)
                            replace hA := Lib.hid (show CmdAt (W4.setCell ⟨W2.heap.size, 1, none⟩ (.string I)) w.heap.size 0 ⟨#[]⟩ ⟨#[]⟩ from by
                              unfold CmdAt
                              rw [Below.heap_setCell _ _ _ _ (show w.heap.size ≠ W2.heap.size from by have := hgb.out.1; omega)]
                              exact hA.out)
                            replace hS := Lib.hid (hS.out.setCell (p := ⟨W2.heap.size, 1, none⟩) hgb.out.2 (.string I))
                            have hIh : RowKit.Hid (I.data.toList = idOf (pieces 58 ps)) := hI
                            have hLE : RowKit.Hid (∀ x, x = (if decide ((T.size : Int) > 512) || decide ((I.size : Int) > 64) then (5 : Int) else if gr [] T.data.toList && gr [58, 59] I.data.toList then 0 else 6) → linkErr (idOf (pieces 58 ps)) text = x) := Lib.hid (fun x hx => by rw [hx, ← hIh.out, ← hTh.out]; exact linkErr_b _ _)
                            have hF := hLE.out
                            clear hLE
                            have hg1 := fun W => rgraphic_text T (by omega) W
                            have hg2 := fun W => rgraphic_id I (by have := hIs.out; omega) W
                            obtain ⟨y0, y1, y2⟩ := hB.out.cs
                            obtain ⟨f0, f1, f2⟩ := hA.out.fr
                            obtain ⟨d0, d1, d2⟩ := hA.out.cs
                            rcases Bool.eq_false_or_eq_true (decide ((T.size : Int) > 512)) with c1 | c1
                            · have hLE := Lib.hid (hF 5 (by rw [c1]; rfl))
                              clear hF hg1 hg2
                              go_wp2
                              have hE := hA.out.set3 0 ⟨#[]⟩ ⟨#[]⟩
                              obtain ⟨c0, c1, c2⟩ := hE.cs
                              refine bodyPost_ret_by (v := .tuple #[cmd 0 ⟨#[]⟩ ⟨#[]⟩, .int .i64 5]) (by simp [results, Tryd.results12, go_sem, c0, c1, c2]) rfl ⟨by rw [hans.out, hLE.out]; rfl, sees3 hS.out (Nat.le_refl _) _ _ _⟩
                            · rcases Bool.eq_false_or_eq_true (decide ((I.size : Int) > 64)) with c2 | c2
                              · have hLE := Lib.hid (hF 5 (by rw [c1, c2]; rfl))
                                clear hF hg1 hg2
                                go_wp2
                                have hE := hA.out.set3 0 ⟨#[]⟩ ⟨#[]⟩
                                obtain ⟨c0, c1, c2⟩ := hE.cs
                                refine bodyPost_ret_by (v := .tuple #[cmd 0 ⟨#[]⟩ ⟨#[]⟩, .int .i64 5]) (by simp [results, Tryd.results12, go_sem, c0, c1, c2]) rfl ⟨by rw [hans.out, hLE.out]; rfl, sees3 hS.out (Nat.le_refl _) _ _ _⟩
                              · generalize gr [] T.data.toList = g1 at hg1 hF
                                generalize gr [58, 59] I.data.toList = g2 at hg2 hF
                                cases g1
                                · have hLE := Lib.hid (hF 6 (by rw [c1, c2]; cases g2 <;> rfl))
                                  clear hF hg2
                                  go_wp2_with fail
                                  refine (hg1 _).mono ?_
                                  rintro e W9 ⟨rfl, rfl⟩
                                  go_wp2
                                  have hE := hA.out.set3 0 ⟨#[]⟩ ⟨#[]⟩
                                  obtain ⟨c0, c1, c2⟩ := hE.cs
                                  refine bodyPost_ret_by (v := .tuple #[cmd 0 ⟨#[]⟩ ⟨#[]⟩, .int .i64 6]) (by simp [results, Tryd.results12, go_sem, c0, c1, c2]) rfl ⟨by rw [hans.out, hLE.out]; rfl, sees3 hS.out (Nat.le_refl _) _ _ _⟩
                                · cases g2
                                  · have hLE := Lib.hid (hF 6 (by rw [c1, c2]; rfl))
                                    clear hF
                                    go_wp2_with fail
                                    refine (hg1 _).mono ?_
                                    rintro e W9 ⟨rfl, rfl⟩
                                    go_wp2_with fail
                                    refine (hg2 _).mono ?_
                                    rintro e W9 ⟨rfl, rfl⟩
                                    go_wp2
                                    have hE := hA.out.set3 0 ⟨#[]⟩ ⟨#[]⟩
                                    obtain ⟨c0, c1, c2⟩ := hE.cs
                                    refine bodyPost_ret_by (v := .tuple #[cmd 0 ⟨#[]⟩ ⟨#[]⟩, .int .i64 6]) (by simp [results, Tryd.results12, go_sem, c0, c1, c2]) rfl ⟨by rw [hans.out, hLE.out]; rfl, sees3 hS.out (Nat.le_refl _) _ _ _⟩
                                  · have hLE := Lib.hid (hF 0 (by rw [c1, c2]; rfl))
                                    clear hF
                                    go_wp2_with fail
                                    refine (hg1 _).mono ?_
                                    rintro e W9 ⟨rfl, rfl⟩
                                    go_wp2_with fail
                                    refine (hg2 _).mono ?_
                                    rintro e W9 ⟨rfl, rfl⟩
                                    go_wp2
                                    have hE := hA.out.set3 2 I T
                                    obtain ⟨c0, c1, c2⟩ := hE.cs
                                    refine bodyPost_ret_by (v := .tuple #[cmd 2 I T, .int .i64 0]) (by simp [results, Tryd.results12, go_sem, c0, c1, c2]) rfl ⟨by rw [hans.out, hLE.out, if_pos rfl, ← hIh.out, ← hTh.out], sees3 hS.out (Nat.le_refl _) _ _ _⟩
                          · have hnx2 := Lib.hid (hnx hq)
                            rw [hq] at hp
                            replace hp := hp.symm
                            clear hnx hid h3 hq
                            go_wp2
                            go_roundw
                            case rel => exact ⟨G, b, rfl, rfl, by have := hG.out.1; omega, hB, hA, hS, Lib.hid (by rw [hm1.out]; exact hnx2.out)⟩
                            case measure =>
                              obtain ⟨hG1, hG2⟩ := hG.out
                              cases b
                              · simp
                              · have := hG2 rfl
                                simp
                                omega
end Go.Proofs.YtmmofcfhenjffaaDoor
