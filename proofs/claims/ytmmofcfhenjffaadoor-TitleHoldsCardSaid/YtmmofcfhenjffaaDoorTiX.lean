/- title.Parse (26). No condition. -/
import Derived.Test.YtmmofcfhenjffaaDoorTiN
import Derived.Test.YtmmofcfhenjffaaDoorTiC
namespace Go.Proofs.YtmmofcfhenjffaaDoor
set_option linter.unusedVariables false
set_option linter.unusedSimpArgs false
open Go.RowKit

/-- The ID: behind id= in the first part that begins so. -/
def idOf : List (List UInt8) → List UInt8
  | [] => []
  | p :: ps => if Lib.hasPrefix p [105, 100, 61] then p.drop 3 else idOf ps
theorem pieces_len (b : UInt8) : ∀ (l : List UInt8), ∀ p ∈ pieces b l, p.length ≤ l.length
  | [], p, h => by
    simp only [pieces, List.mem_singleton] at h
    rw [h]
    exact Nat.le_refl _
  | x :: l, p, h => by
    have ih := pieces_len b l
    simp only [pieces] at h
    split at h
    · rcases List.mem_cons.1 h with rfl | h
      · exact Nat.zero_le _
      · exact Nat.le_trans (ih p h) (Nat.le_succ _)
    · cases hq : pieces b l with
      | nil => exact absurd hq (pieces_ne b l)
      | cons q qs =>
        rw [hq] at h ih
        rcases List.mem_cons.1 h with rfl | h
        · have := ih q (List.mem_cons_self ..)
          simp only [List.length_cons]
          omega
        · exact Nat.le_trans (ih p (List.mem_cons_of_mem _ h)) (Nat.le_succ _)
theorem idOf_len (n : Nat) : ∀ (L : List (List UInt8)), (∀ p ∈ L, p.length ≤ n) → (idOf L).length ≤ n
  | [], _ => Nat.zero_le _
  | p :: ps, h => by
    unfold idOf
    split
    · rw [List.length_drop]
      have := h p (List.mem_cons_self ..)
      omega
    · exact idOf_len n ps fun q hq => h q (List.mem_cons_of_mem _ hq)
/-- What is said behind a number. -/
def restT (n : Nat) (rest : List UInt8) : Int × List UInt8 × List UInt8 × Int :=
  if n = 0 ∨ n = 2 then (1, [], cleanT rest, 0) else if n ≠ 8 then (0, [], [], 9) else match bef 59 rest with
    | none => (0, [], [], 6)
    | some (ps, text) => if text = [] then (3, [], [], 0) else if linkErr (idOf (pieces 58 ps)) text = 0 then (2, idOf (pieces 58 ps), text, 0) else (0, [], [], linkErr (idOf (pieces 58 ps)) text)
/-- What a text says: a command's kind, ID and Text, and the error. -/
def parseT (l : List UInt8) : Int × List UInt8 × List UInt8 × Int := match numR l with
  | none => (0, [], [], 6)
  | some (n, rest) => restT n rest
abbrev saidV (x : Int × List UInt8 × List UInt8 × Int) : Value := .tuple #[cmd x.1 ⟨x.2.1.toArray⟩ ⟨x.2.2.1.toArray⟩, .int .i64 x.2.2.2]
theorem cmd0 : (⟨([] : List UInt8).toArray⟩ : ByteArray) = ⟨#[]⟩ := rfl
theorem CmdAt.set3 {W : World} {b : Nat} {k : Int} {id text : ByteArray} (h : CmdAt W b k id text) (k' : Int) (id' text' : ByteArray) : CmdAt (((W.setCell ⟨b, 0, none⟩ (.int .i64 k')).setCell ⟨b, 1, none⟩ (.string id')).setCell ⟨b, 2, none⟩ (.string text')) b k' id' text' :=
  heap_setCell_same _ _ _ _ _ _ (heap_setCell_same _ _ _ _ _ _ (heap_setCell_same _ _ _ _ _ _ h))
theorem CmdAt.set1 {W : World} {b : Nat} {k : Int} {id text : ByteArray} (h : CmdAt W b k id text) (id' : ByteArray) : CmdAt (W.setCell ⟨b, 1, none⟩ (.string id')) b k id' text :=
  heap_setCell_same _ _ _ _ _ _ h
theorem sees3 {w W : World} (h : Sees w W) {b : Nat} (hb : w.heap.size ≤ b) (u0 u1 u2 : Value) : Sees w (((W.setCell ⟨b, 0, none⟩ u0).setCell ⟨b, 1, none⟩ u1).setCell ⟨b, 2, none⟩ u2) :=
  ((h.setCell (p := ⟨b, 0, none⟩) hb u0).setCell (p := ⟨b, 1, none⟩) hb u1).setCell (p := ⟨b, 2, none⟩) hb u2
set_option maxHeartbeats 4000000 in
set_option maxRecDepth 100000 in
theorem parse_any (s : ByteArray) (hs : s.size ≤ 1000000) (w : World) (hw : Std w) :
    Calls Tryd.prog 21 #[.string s] w fun e w' => e = .returned (saidV (parseT s.data.toList)) ∧ Sees w w' := by
  have hnum : ∀ W, Std W → _ := fun W hW => number_any s (by omega) W hW
  have hr := Sees.refl w
  have hs1 := hr.alloc (.cells #[.int .i64 0, .string ⟨#[]⟩, .string ⟨#[]⟩] 30)
  unfold parseT
  cases hnr : numR s.data.toList with
  | none =>
    rw [hnr] at hnum
    simp only at hnum ⊢
    go_enter Tryd.func21, Tryd.ntmps21
    go_wp2_with (go_at_call 33; refine (hnum _ (hw.sees hs1)).mono ?_)
    rintro e W1 ⟨rfl, s1⟩
    have A1 := (CmdAt.new w 0 ⟨#[]⟩ ⟨#[]⟩).sees s1
    obtain ⟨q0, q1, q2⟩ := A1.cs
    obtain ⟨f0, f1, f2⟩ := A1.fr
    go_wp2
    have hE := A1.set3 0 ⟨#[]⟩ ⟨#[]⟩
    obtain ⟨c0, c1, c2⟩ := hE.cs
    refine bodyPost_ret_by (v := .tuple #[cmd 0 ⟨#[]⟩ ⟨#[]⟩, .int .i64 6]) (by simp [results, Tryd.results21, go_sem, c0, c1, c2]) rfl ⟨rfl, sees3 (hs1.trans s1) (Nat.le_refl _) _ _ _⟩
  | some p =>
    obtain ⟨n, rest⟩ := p
    rw [hnr] at hnum
    have hrl : rest.length ≤ 1000000 := by
      unfold numR at hnr
      cases hb : bef 59 s.data.toList with
      | none => rw [hb] at hnr; cases hnr
      | some p =>
        rw [hb] at hnr
        simp only at hnr
        split at hnr
        · injection hnr with hnr
          injection hnr with _ hnr
          have := congrArg List.length (bef_some (p := p.1) (q := p.2) hb).1
          rw [List.length_append, List.length_cons, ← Lib.size_eq] at this
          rw [← hnr]
          omega
        · cases hnr
    clear hnr
    obtain ⟨R, hR⟩ : ∃ R : ByteArray, R = ⟨rest.toArray⟩ := ⟨_, rfl⟩
    have hRd : R.data.toList = rest := by rw [hR]
    have hRs : R.size ≤ 1000000 := by rw [Lib.size_eq, hRd]; exact hrl
    simp only at hnum ⊢
    rw [← hR] at hnum
    obtain ⟨ans, hans⟩ : ∃ a, a = restT n rest := ⟨_, rfl⟩
    rw [← hans]
    unfold restT at hans
    have hcl := clean_any R (by omega)
    have hcut := fun W hW => cut_any R (by omega) 59 W hW
    rw [hRd] at hcl
    rw [hRd, cut_bef] at hcut
    clear hR hRd
    go_enter Tryd.func21, Tryd.ntmps21
    go_wp2_with (go_at_call 33; refine (hnum _ (hw.sees hs1)).mono ?_)
    rintro e W1 ⟨⟨v, hv, rfl⟩, s1⟩
    have A1 := (CmdAt.new w 0 ⟨#[]⟩ ⟨#[]⟩).sees s1
    obtain ⟨q0, q1, q2⟩ := A1.cs
    obtain ⟨f0, f1, f2⟩ := A1.fr
    have S1 := hs1.trans s1
    by_cases n02 : n = 0 ∨ n = 2
    · rw [if_pos n02] at hans
      have g1 : v = 0 ∨ v = 2 := by rcases hv with h | ⟨h, h'⟩ <;> omega
      rcases g1 with rfl | rfl
      all_goals
        go_wp2_with (go_at_call 10; refine (hcl _).mono ?_)
        rintro e W2 ⟨rfl, s2⟩
        have A2 := A1.sees s2
        clear q0 q1 q2 f0 f1 f2
        obtain ⟨q0, q1, q2⟩ := A2.cs
        obtain ⟨f0, f1, f2⟩ := A2.fr
        go_wp2
        have hE := A2.set3 1 ⟨#[]⟩ ⟨(cleanT rest).toArray⟩
        obtain ⟨c0, c1, c2⟩ := hE.cs
        refine bodyPost_ret_by (v := .tuple #[cmd 1 ⟨#[]⟩ ⟨(cleanT rest).toArray⟩, .int .i64 0]) (by simp [results, Tryd.results21, go_sem, c0, c1, c2]) rfl ⟨by subst hans; rfl, sees3 (S1.trans s2) (Nat.le_refl _) _ _ _⟩
    · rw [if_neg n02] at hans
      have g1 : (v == 0) = false := beq_eq_false_iff_ne.2 (by rcases hv with h | ⟨h, h'⟩ <;> omega)
      have g2 : (v == 2) = false := beq_eq_false_iff_ne.2 (by rcases hv with h | ⟨h, h'⟩ <;> omega)
      by_cases n8 : n = 8
      · rw [if_neg (fun h => h n8)] at hans
        obtain rfl : v = 8 := by rcases hv with h | ⟨h, h'⟩ <;> omega
        cases hb2 : bef 59 rest with
        | none =>
          rw [hb2] at hcut
          rw [hb2] at hans
          simp only at hcut hans
          go_wp2_with (go_at_call 34; refine (hcut _ ((hw.sees hs1).sees s1)).mono ?_)
          rintro e W2 ⟨rfl, s2⟩
          have A2 := A1.sees s2
          clear q0 q1 q2 f0 f1 f2
          obtain ⟨q0, q1, q2⟩ := A2.cs
          obtain ⟨f0, f1, f2⟩ := A2.fr
          go_wp2
          have hE := A2.set3 0 ⟨#[]⟩ ⟨#[]⟩
          obtain ⟨c0, c1, c2⟩ := hE.cs
          refine bodyPost_ret_by (v := .tuple #[cmd 0 ⟨#[]⟩ ⟨#[]⟩, .int .i64 6]) (by simp [results, Tryd.results21, go_sem, c0, c1, c2]) rfl ⟨by subst hans; rfl, sees3 (S1.trans s2) (Nat.le_refl _) _ _ _⟩
        | some pt =>
          obtain ⟨ps, text⟩ := pt
          rw [hb2] at hcut
          have hlen := congrArg List.length (bef_some hb2).1
          rw [List.length_append, List.length_cons] at hlen
          obtain ⟨P, hP⟩ : ∃ P : ByteArray, P = ⟨ps.toArray⟩ := ⟨_, rfl⟩
          obtain ⟨T, hT⟩ : ∃ T : ByteArray, T = ⟨text.toArray⟩ := ⟨_, rfl⟩
          have hPd : P.data.toList = ps := by rw [hP]
          have hTd : T.data.toList = text := by rw [hT]
          have hPs : P.size ≤ 1000000 := by rw [Lib.size_eq, hPd]; omega
          have hTs : T.size ≤ 1000000 := by rw [Lib.size_eq, hTd]; omega
          have hTl : T.toList = text := by rw [Lib.toList_data, hTd]
          rw [hb2] at hans
          simp only at hcut hans
          rw [← hP, ← hT] at hcut
          have hps : ps.length ≤ 1000000 := by omega
          clear hlen hb2 hP hT
          go_wp2_with (go_at_call 34; refine (hcut _ ((hw.sees hs1).sees s1)).mono ?_)
          rintro e W2 ⟨rfl, s2⟩
          have A2 := A1.sees s2
          clear q0 q1 q2 f0 f1 f2
          obtain ⟨q0, q1, q2⟩ := A2.cs
          obtain ⟨f0, f1, f2⟩ := A2.fr
          have S2 := S1.trans s2
          by_cases ht : text = []
          · rw [if_pos ht] at hans
            have g5 : T.toList.isEmpty = true := by rw [hTl, ht]; rfl
            clear hTl
            go_wp2
            have hE := A2.set3 3 ⟨#[]⟩ ⟨#[]⟩
            obtain ⟨c0, c1, c2⟩ := hE.cs
            refine bodyPost_ret_by (v := .tuple #[cmd 3 ⟨#[]⟩ ⟨#[]⟩, .int .i64 0]) (by simp [results, Tryd.results21, go_sem, c0, c1, c2]) rfl ⟨by subst hans; rfl, sees3 S2 (Nat.le_refl _) _ _ _⟩
          · rw [if_neg ht] at hans
            have g5 : T.toList.isEmpty = false := by
              rw [hTl]
              cases text with
              | nil => exact absurd rfl ht
              | cons _ _ => rfl
            clear hTl
            have B2 := CmdAt.new W2 2 ⟨#[]⟩ T
            have S2b := S2.alloc (.cells #[.int .i64 2, .string ⟨#[]⟩, .string T] 30)
            have S2c := (Sees.refl W2).alloc (.cells #[.int .i64 2, .string ⟨#[]⟩, .string T] 30)
            have hspl := split_any P (by omega) 58 _ (hw.sees S2b)
            obtain ⟨PB, hPB⟩ : ∃ PB, PB = Lib.splitB ⟨#[58]⟩ 0 (Lib.countB P ⟨#[58]⟩) P := ⟨_, rfl⟩
            have hPL : PB.length = Lib.countB P ⟨#[58]⟩ + 1 := by rw [hPB]; exact Lib.splitB_all ⟨#[58]⟩ (Nat.le_refl 1) 0 _ P rfl
            have hPM : PB.map (·.data.toList) = pieces 58 ps := by
              rw [hPB, Lib.splitB_data, hPd, ← split_pieces]
              unfold Lib.split Lib.countB
              rw [hPd]
            have hPm : Lib.countB P ⟨#[58]⟩ ≤ 1000000 := Nat.le_trans (Lib.countB_le ⟨#[58]⟩ (Nat.le_refl 1) _ P (Nat.le_refl _)) hPs
            rw [← hPB] at hspl
            generalize Lib.countB P ⟨#[58]⟩ = m at hspl hPL hPm
            clear hPB
            go_wp2_with (go_at_call 35; refine hspl.mono ?_)
            rintro e W3 ⟨rfl, hW3⟩
            have hpc : W3.heap[(W2.alloc (.cells #[.int .i64 2, .string ⟨#[]⟩, .string T] 30)).heap.size]? = some (.cells (PB.map Value.string).toArray 9 (0, 0)) := by rw [hW3]; exact heap_alloc_new _ _
            have s3 : Sees (W2.alloc (.cells #[.int .i64 2, .string ⟨#[]⟩, .string T] 30)) W3 := by rw [hW3]; exact (Sees.refl _).alloc _
            clear hW3 hspl
            generalize (W2.alloc (.cells #[.int .i64 2, .string ⟨#[]⟩, .string T] 30)).heap.size = pb at hpc ⊢
            have A3 := (A2.sees S2c).sees s3
            have B3 := B2.sees s3
            have S3 := S2b.trans s3
            clear q0 q1 q2 f0 f1 f2
            go_wp2
            go_loop [53] (fun i => ∃ k : Nat, k ≤ m + 1 ∧ i = .int .i64 k ∧ RowKit.Hid (idOf ((pieces 58 ps).drop k) = idOf (pieces 58 ps))) (fun i => m + 1 - (intOf i).toNat)
            case atStart => exact ⟨0, by omega, rfl, Lib.hid rfl⟩
            case round =>
              obtain ⟨k, hk, rfl, hm⟩ := hrel
              by_cases hlt : k < m + 1
              · have hkl : k < PB.length := by omega
                have hcell : W3.cell? ⟨pb, k, none⟩ = some (.string PB[k]) := by
                  rw [cell_of_row _ _ _ _ _ _ hpc]
                  simp [hkl]
                have hpk : (pieces 58 ps).drop k = PB[k].data.toList :: (pieces 58 ps).drop (k + 1) := by
                  have hkl2 : k < (pieces 58 ps).length := by rw [← hPM, List.length_map]; exact hkl
                  rw [List.drop_eq_getElem_cons hkl2]
                  congr 1
                  simp [← hPM]
                have hX := Lib.hid hpk
                clear hpk
                generalize PB[k] = X at hcell hX
                have hcp := cutp_any X ⟨#[105, 100, 61]⟩
                rw [show (⟨#[105, 100, 61]⟩ : ByteArray).data.toList = [105, 100, 61] from rfl] at hcp
                unfold Lib.trimPrefix at hcp
                rcases Bool.eq_false_or_eq_true (Lib.hasPrefix X.data.toList [105, 100, 61]) with hp | hp
                · obtain ⟨I, hIe⟩ : ∃ I : ByteArray, I = ⟨(X.data.toList.drop 3).toArray⟩ := ⟨_, rfl⟩
                  have hI : I.data.toList = idOf (pieces 58 ps) := by
                    rw [← hm.out, hX.out, idOf, if_pos hp, hIe]
                  rw [hp, if_pos rfl, show ([105, 100, 61] : List UInt8).length = 3 from rfl, ← hIe] at hcp
                  have hIs : I.size ≤ 1000000 := by rw [Lib.size_eq, hI]; exact Nat.le_trans (idOf_len _ _ (pieces_len 58 ps)) hps
                  clear hIe hp
                  have hfr := B3.fr.2.1
                  obtain ⟨x0, x1, x2⟩ := B3.cs
                  have A4 : CmdAt (W3.setCell ⟨W2.heap.size, 1, none⟩ (.string I)) w.heap.size 0 ⟨#[]⟩ ⟨#[]⟩ := by
                    unfold CmdAt
                    rw [Below.heap_setCell _ _ _ _ (show w.heap.size ≠ W2.heap.size from by have := A2.lt; omega)]
                    exact A3
                  have B4 := B3.set1 I
                  have S4 := S3.setCell (p := ⟨W2.heap.size, 1, none⟩) S2.size (.string I)
                  have hlk := linked_any 2 I T (Nat.le_trans hIs (by decide)) (by omega)
                  rw [hTd, hI] at hlk
                  obtain ⟨le, hle⟩ : ∃ x, x = linkErr (idOf (pieces 58 ps)) text := ⟨_, rfl⟩
                  rw [← hle] at hlk hans
                  obtain ⟨y0, y1, y2⟩ := B4.cs
                  by_cases hz : le = 0
                  · rw [if_pos hz] at hans
                    rw [hz] at hlk
                    clear hle hz
                    have hIh := Lib.hid hI
                    have hTh := Lib.hid hTd
                    have hah := Lib.hid hans
                    clear hI hTd hans
                    go_wp2_with (first | (go_at_call 36; refine (hcp _).mono ?_) | (go_at_call 32; refine (hlk _).mono ?_))
                    try
                      rintro e W4 ⟨rfl, rfl⟩
                      go_wp2_with (go_at_call 32; refine (hlk _).mono ?_)
                    rintro e W5 ⟨rfl, s5⟩
                    have A5 := A4.sees s5
                    have S5 := S4.trans s5
                    obtain ⟨d0, d1, d2⟩ := A5.cs
                    obtain ⟨f0, f1, f2⟩ := A5.fr
                    obtain ⟨z0, z1, z2⟩ := (B4.sees s5).cs
                    go_wp2
                    have hE := A5.set3 2 I T
                    obtain ⟨c0, c1, c2⟩ := hE.cs
                    refine bodyPost_ret_by (v := .tuple #[cmd 2 I T, .int .i64 0]) (by simp [results, Tryd.results21, go_sem, c0, c1, c2]) rfl ⟨?_, sees3 S5 (Nat.le_refl _) _ _ _⟩
                    rw [hah.out, ← hIh.out, ← hTh.out]
                  · rw [if_neg hz] at hans
                    have hz2 : (le == 0) = false := beq_eq_false_iff_ne.2 hz
                    clear hle hz
                    have hIh := Lib.hid hI
                    have hTh := Lib.hid hTd
                    have hah := Lib.hid hans
                    clear hI hTd hans
                    go_wp2_with (first | (go_at_call 36; refine (hcp _).mono ?_) | (go_at_call 32; refine (hlk _).mono ?_))
                    try
                      rintro e W4 ⟨rfl, rfl⟩
                      go_wp2_with (go_at_call 32; refine (hlk _).mono ?_)
                    rintro e W5 ⟨rfl, s5⟩
                    have A5 := A4.sees s5
                    have S5 := S4.trans s5
                    obtain ⟨d0, d1, d2⟩ := A5.cs
                    obtain ⟨f0, f1, f2⟩ := A5.fr
                    obtain ⟨z0, z1, z2⟩ := (B4.sees s5).cs
                    go_wp2
                    have hE := A5.set3 0 ⟨#[]⟩ ⟨#[]⟩
                    obtain ⟨c0, c1, c2⟩ := hE.cs
                    refine bodyPost_ret_by (v := .tuple #[cmd 0 ⟨#[]⟩ ⟨#[]⟩, .int .i64 le]) (by simp [results, Tryd.results21, go_sem, c0, c1, c2]) rfl ⟨?_, sees3 S5 (Nat.le_refl _) _ _ _⟩
                    rw [hah.out]
                · rw [hp, if_neg (by simp)] at hcp
                  have hnx : RowKit.Hid (idOf ((pieces 58 ps).drop (k + 1)) = idOf (pieces 58 ps)) := Lib.hid (by
                    rw [← hm.out, hX.out, idOf, if_neg (by rw [hp]; simp)])
                  go_wp2_with (go_at_call 36; refine (hcp _).mono ?_)
                  try (rintro e W4 ⟨rfl, rfl⟩; go_wp2)
                  go_round
                  case rel => exact ⟨k + 1, by omega, by go_num, hnx⟩
                  case measure => simp [intOf]; omega
              · obtain rfl : k = m + 1 := by omega
                have hI : (⟨#[]⟩ : ByteArray).data.toList = idOf (pieces 58 ps) := by
                  rw [← hm.out, List.drop_eq_nil_of_le (by rw [← hPM, List.length_map]; omega)]
                  rfl
                have hIs : (⟨#[]⟩ : ByteArray).size ≤ 1000000 := by decide
                have hlk := linked_any 2 ⟨#[]⟩ T (Nat.le_trans hIs (by decide)) (by omega)
                rw [hTd, hI] at hlk
                obtain ⟨le, hle⟩ : ∃ x, x = linkErr (idOf (pieces 58 ps)) text := ⟨_, rfl⟩
                rw [← hle] at hlk hans
                obtain ⟨y0, y1, y2⟩ := B3.cs
                by_cases hz : le = 0
                · rw [if_pos hz] at hans
                  rw [hz] at hlk
                  clear hle hz
                  have hIh := Lib.hid hI
                  have hTh := Lib.hid hTd
                  have hah := Lib.hid hans
                  clear hI hTd hans
                  go_wp2_with (first | (go_at_call 32; refine (hlk _).mono ?_))
                  rintro e W5 rfl s5
                  have A5 := A3.sees s5
                  have S5 := S3.trans s5
                  obtain ⟨d0, d1, d2⟩ := A5.cs
                  obtain ⟨f0, f1, f2⟩ := A5.fr
                  obtain ⟨z0, z1, z2⟩ := (B3.sees s5).cs
                  go_wp2
                  have hE := A5.set3 2 ⟨#[]⟩ T
                  obtain ⟨c0, c1, c2⟩ := hE.cs
                  refine bodyPost_ret_by (v := .tuple #[cmd 2 ⟨#[]⟩ T, .int .i64 0]) (by simp [results, Tryd.results21, go_sem, c0, c1, c2]) rfl ⟨?_, sees3 S5 (Nat.le_refl _) _ _ _⟩
                  rw [hah.out, ← hIh.out, ← hTh.out]
                · rw [if_neg hz] at hans
                  have hz2 : (le == 0) = false := beq_eq_false_iff_ne.2 hz
                  clear hle hz
                  have hIh := Lib.hid hI
                  have hTh := Lib.hid hTd
                  have hah := Lib.hid hans
                  clear hI hTd hans
                  go_wp2_with (first | (go_at_call 32; refine (hlk _).mono ?_))
                  rintro e W5 rfl s5
                  have A5 := A3.sees s5
                  have S5 := S3.trans s5
                  obtain ⟨d0, d1, d2⟩ := A5.cs
                  obtain ⟨f0, f1, f2⟩ := A5.fr
                  obtain ⟨z0, z1, z2⟩ := (B3.sees s5).cs
                  go_wp2
                  have hE := A5.set3 0 ⟨#[]⟩ ⟨#[]⟩
                  obtain ⟨c0, c1, c2⟩ := hE.cs
                  refine bodyPost_ret_by (v := .tuple #[cmd 0 ⟨#[]⟩ ⟨#[]⟩, .int .i64 le]) (by simp [results, Tryd.results21, go_sem, c0, c1, c2]) rfl ⟨?_, sees3 S5 (Nat.le_refl _) _ _ _⟩
                  rw [hah.out]
      · rw [if_pos n8] at hans
        have g3 : (v == 8) = false := beq_eq_false_iff_ne.2 (by rcases hv with h | ⟨h, h'⟩ <;> omega)
        go_wp2
        have hE := A1.set3 0 ⟨#[]⟩ ⟨#[]⟩
        obtain ⟨c0, c1, c2⟩ := hE.cs
        refine bodyPost_ret_by (v := .tuple #[cmd 0 ⟨#[]⟩ ⟨#[]⟩, .int .i64 9]) (by simp [results, Tryd.results21, go_sem, c0, c1, c2]) rfl ⟨by subst hans; rfl, sees3 S1 (Nat.le_refl _) _ _ _⟩
end Go.Proofs.YtmmofcfhenjffaaDoor
