/- TabsHolds returns true for every input, and leaves its arguments alone. No condition. -/
import Derived.Test.YtdblmoaimghplaaLawN
import Derived.Test.YtdblmoaimghplaaTbX
namespace Go.Proofs.Ytdblmoaimghplaa
set_option linter.unusedVariables false
set_option linter.unusedSimpArgs false
namespace tabsHolds
open Go.ChangeShapes Go.WideShapes Go.ChangeAt Go.RowKit

/-- Stops of one's own, of so many columns. -/
def StH (w W : World) (p mb N : Nat) : Prop := (∃ L : List Bool, L.length = N ∧ SpAt W p mb L) ∧ Sees w W
theorem sh_next {w W W' : World} {p mb N : Nat} {L' : List Bool} (h : Sees w W) (hm : w.heap.size ≤ mb) (hl : L'.length = N) (hp : SpAt W' p mb L') (hk : Keeps (fun c => c = mb) W W') : StH w W' p mb N :=
  ⟨⟨L', hl, hp⟩, ((Keeps.of_sees (F := fun c => c = mb) h).trans hk).sees_end (fun c hc e => by omega)⟩
theorem set_sh {w W : World} {p mb N : Nat} (h : StH w W p mb N) (hm : w.heap.size ≤ mb) (a : Int) : Calls Try.prog 15 #[ptr p, i64 a] W fun e w' => (∃ k, e = .returned (i64 k)) ∧ StH w w' p mb N := by
  obtain ⟨⟨L, hl, hS⟩, hs⟩ := h
  by_cases ha : 0 ≤ a ∧ a < L.length
  · obtain ⟨i, rfl⟩ : ∃ i : Nat, a = (i : Int) := ⟨a.toNat, by omega⟩
    exact (set_in hS i (by omega)).mono fun e w' ⟨he, h1, h2⟩ => ⟨⟨0, he⟩, sh_next hs hm (by rw [List.length_set]; exact hl) h1 h2⟩
  · exact (set_out hS a ha).mono fun e w' ⟨he, h1⟩ => ⟨⟨3, he⟩, by rw [h1]; exact ⟨⟨L, hl, hS⟩, hs⟩⟩
theorem clear_sh {w W : World} {p mb N : Nat} (h : StH w W p mb N) (hm : w.heap.size ≤ mb) (a : Int) : Calls Try.prog 16 #[ptr p, i64 a] W fun e w' => (∃ k, e = .returned (i64 k)) ∧ StH w w' p mb N := by
  obtain ⟨⟨L, hl, hS⟩, hs⟩ := h
  by_cases ha : 0 ≤ a ∧ a < L.length
  · obtain ⟨i, rfl⟩ : ∃ i : Nat, a = (i : Int) := ⟨a.toNat, by omega⟩
    exact (clear_in hS i (by omega)).mono fun e w' ⟨he, h1, h2⟩ => ⟨⟨0, he⟩, sh_next hs hm (by rw [List.length_set]; exact hl) h1 h2⟩
  · exact (clear_out hS a ha).mono fun e w' ⟨he, h1⟩ => ⟨⟨3, he⟩, by rw [h1]; exact ⟨⟨L, hl, hS⟩, hs⟩⟩
theorem reset_sh {w W : World} {p mb N : Nat} (h : StH w W p mb N) (hm : w.heap.size ≤ mb) : Calls Try.prog 17 #[ptr p] W fun e w' => (∃ k, e = .returned (i64 k)) ∧ StH w w' p mb N := by
  obtain ⟨⟨L, hl, hS⟩, hs⟩ := h
  exact (reset_at hS).mono fun e w' ⟨he, h1, h2⟩ => ⟨⟨0, he⟩, sh_next hs hm (by rw [List.length_replicate]; exact hl) h1 h2⟩
theorem default_sh {w W : World} {p mb N : Nat} (h : StH w W p mb N) (hm : w.heap.size ≤ mb) : Calls Try.prog 18 #[ptr p] W fun e w' => (∃ k, e = .returned (i64 k)) ∧ StH w w' p mb N := by
  obtain ⟨⟨L, hl, hS⟩, hs⟩ := h
  exact (default_at hS).mono fun e w' ⟨he, h1, h2⟩ => ⟨⟨0, he⟩, sh_next hs hm (by rw [defL_length]; exact hl) h1 h2⟩
theorem stops_at {L : List Bool} {i : Nat} (hi : i < (stopsL L).length) : 0 ≤ (stopsL L).getD i 0 ∧ (stopsL L).getD i 0 < L.length := by
  refine getB_range ((mem_stopsL L _).1 ?_)
  rw [List.getD_eq_getElem?_getD, List.getElem?_eq_getElem hi]
  exact List.getElem_mem hi
theorem stops_lt {L : List Bool} {i j : Nat} (hij : i < j) (hj : j < (stopsL L).length) : (stopsL L).getD i 0 < (stopsL L).getD j 0 := by
  have h := List.pairwise_iff_getElem.1 (stopsL_rising L) i j (by omega) hj hij
  rw [List.getD_eq_getElem?_getD, List.getD_eq_getElem?_getD, List.getElem?_eq_getElem hj, List.getElem?_eq_getElem (show i < (stopsL L).length by omega)]
  exact h
theorem any_snoc (xs : List Int) (C : Int) {k : Nat} (hk : k < xs.length) : ((xs.take (k + 1)).any fun z => z == C) = (((xs.take k).any fun z => z == C) || (xs.getD k 0 == C)) := by
  rw [List.take_add_one, List.any_append, List.getElem?_eq_getElem hk, List.getD_eq_getElem?_getD, List.getElem?_eq_getElem hk]
  simp
theorem hidw {f : FuncId} {args : Array Value} {w : World} {v : Value} (h : Calls Try.prog f args w fun e w' => e = .returned v ∧ w' = w) : Calls Try.prog f args w fun e w' => e = .returned v ∧ RowKit.Hid (w' = w) := h.mono fun e w' h' => ⟨h'.1, Lib.hid h'.2⟩
set_option maxHeartbeats 16000000 in
set_option maxRecDepth 100000 in
theorem walk (c : Int) (v : Value) (ds : List Ac) (col m n more : Int) (w : World) (hc : -9223372036854775808 ≤ c ∧ c ≤ 9223372036854775807) (hv : RdAs w v ds) (hcol : -9223372036854775808 ≤ col ∧ col ≤ 9223372036854775807) (hm : 0 ≤ m ∧ m ≤ 255) (hn : 0 ≤ n ∧ n ≤ 255) (hmore : 0 ≤ more ∧ more ≤ 65535) :
    Calls Try.prog 5 #[.int .i64 c, v, .int .i64 col, .int .u8 m, .int .u8 n, .int .u16 more] w fun e w' => e = .returned (.bool true) ∧ Sees w w' := by
  obtain ⟨ao, cap, rfl, hcap, hbs⟩ := hv
  replace hbs := Lib.hid hbs
  have hr := Sees.refl w
  obtain ⟨M, hM⟩ : ∃ M, M = ds.length := ⟨_, rfl⟩
  rw [← hM] at hcap hbs ⊢
  clear hM
  by_cases g1 : c < 1
  · have d1 : decide (c < 1) = true := decide_eq_true g1
    go_enter Try.func5, Try.ntmps5
    go_wp2_with fail
    refine (known20 _).mono ?_
    rintro e W2 ⟨rfl, s2⟩
    go_wp2
    go_ret
    exact ⟨rfl, s2⟩
  have d1 : decide (c < 1) = false := decide_eq_false g1
  by_cases g2 : c > 200
  · have d2 : decide (c > 200) = true := decide_eq_true g2
    have d2' : decide (200 < c) = true := decide_eq_true g2
    go_enter Try.func5, Try.ntmps5
    go_wp2_with fail
    refine (known20 _).mono ?_
    rintro e W2 ⟨rfl, s2⟩
    go_wp2
    go_ret
    exact ⟨rfl, s2⟩
  have d2 : decide (c > 200) = false := decide_eq_false g2
  have d2' : decide (200 < c) = false := decide_eq_false g2
  by_cases g3 : 30 < M
  · have d3 : decide ((M : Int) > 30) = true := decide_eq_true (by omega)
    have d3' : decide (30 < M) = true := decide_eq_true g3
    go_enter Try.func5, Try.ntmps5
    go_wp2_with fail
    refine (known20 _).mono ?_
    rintro e W2 ⟨rfl, s2⟩
    go_wp2
    go_ret
    exact ⟨rfl, s2⟩
  have d3 : decide ((M : Int) > 30) = false := decide_eq_false (by omega)
  have d3' : decide (30 < M) = false := decide_eq_false g3
  by_cases g4 : col < 0
  · have d4 : decide (col < 0) = true := decide_eq_true g4
    go_enter Try.func5, Try.ntmps5
    go_wp2_with fail
    refine (known20 _).mono ?_
    rintro e W2 ⟨rfl, s2⟩
    go_wp2
    go_ret
    exact ⟨rfl, s2⟩
  have d4 : decide (col < 0) = false := decide_eq_false g4
  by_cases g5 : c ≤ col
  · have d5 : decide (col ≥ c) = true := decide_eq_true g5
    have d5' : decide (c ≤ col) = true := decide_eq_true g5
    go_enter Try.func5, Try.ntmps5
    go_wp2_with fail
    refine (known20 _).mono ?_
    rintro e W2 ⟨rfl, s2⟩
    go_wp2
    go_ret
    exact ⟨rfl, s2⟩
  have d5 : decide (col ≥ c) = false := decide_eq_false g5
  have d5' : decide (c ≤ col) = false := decide_eq_false g5
  by_cases g6 : more > 800
  · have d6 : decide (more > 800) = true := decide_eq_true g6
    have d6' : decide (800 < more) = true := decide_eq_true g6
    go_enter Try.func5, Try.ntmps5
    go_wp2_with fail
    refine (known20 _).mono ?_
    rintro e W2 ⟨rfl, s2⟩
    go_wp2
    go_ret
    exact ⟨rfl, s2⟩
  have d6 : decide (more > 800) = false := decide_eq_false g6
  have d6' : decide (800 < more) = false := decide_eq_false g6
  go_enter Try.func5, Try.ntmps5
  go_wp2_with fail
  obtain ⟨N, rfl⟩ : ∃ N : Nat, c = (N : Int) := ⟨c.toNat, by omega⟩
  obtain ⟨C, rfl⟩ : ∃ C : Nat, col = (C : Int) := ⟨col.toNat, by omega⟩
  obtain ⟨m, rfl⟩ : ∃ k : Nat, m = (k : Int) := ⟨m.toNat, by omega⟩
  obtain ⟨n, rfl⟩ : ∃ k : Nat, n = (k : Int) := ⟨n.toNat, by omega⟩
  obtain ⟨more, rfl⟩ : ∃ k : Nat, more = (k : Int) := ⟨more.toNat, by omega⟩
  have hb : (1 ≤ N ∧ N ≤ 200) ∧ C < N ∧ m ≤ 255 ∧ n ≤ 255 ∧ more ≤ 800 := by omega
  obtain ⟨⟨b1, b2⟩, b3, b4, b5, b6⟩ := hb
  clear g1 g2 g4 g5 g6 hc hcol hm hn hmore d1 d2 d2' d3 d3' d4 d5 d5' d6 d6'
  refine (new_ok w N (by omega)).mono ?_
  rintro e W1 ⟨p, mb, rfl, hp, hm, hS, s1⟩
  have HB := Lib.hid (And.intro hp hm)
  have HT := Lib.hid (show StH w W1 p mb N from ⟨⟨_, defL_length N, hS⟩, s1⟩)
  clear hS s1 hp hm
  go_wp2
  go_loopw [15] (fun x W => ∃ k : Nat, x = .int .i64 k ∧ k ≤ M ∧ RowKit.Hid (StH w W p mb N)) (fun x _ => M - (vInt x).toNat)
  case atStart => exact ⟨0, rfl, by omega, HT⟩
  case round =>
    obtain ⟨k, rfl, hk, hst⟩ := hrel
    clear HT
    by_cases hlt : k < M
    · obtain ⟨e1, o1, ⟨x, a, z⟩, rfl, x0, x1, x2, hf0, hf1, hf2⟩ := hbs.out k hlt
      simp only at x0 x1 x2 hf0 hf1 hf2
      have c0 := hst.out.2.cell x0
      have c1 := hst.out.2.cell x1
      clear x0 x1 x2 hf0 hf2
      rcases (show x = 0 ∨ x = 1 ∨ x = 2 ∨ x = 3 ∨ (x < 0 ∨ 3 < x) by omega) with rfl | rfl | rfl | rfl | hx
      · have hdo := set_sh hst.out HB.out.2 a
        go_wp2_with (go_at_call 15; refine hdo.mono ?_)
        rintro e W3 ⟨⟨r, rfl⟩, hT3⟩
        replace hT3 := Lib.hid hT3
        go_wp2
        go_roundw
        case rel => exact ⟨k + 1, by go_num, by omega, hT3⟩
        case measure => simp [vInt]; omega
      · have hdo := clear_sh hst.out HB.out.2 a
        go_wp2_with (go_at_call 16; refine hdo.mono ?_)
        rintro e W3 ⟨⟨r, rfl⟩, hT3⟩
        replace hT3 := Lib.hid hT3
        go_wp2
        go_roundw
        case rel => exact ⟨k + 1, by go_num, by omega, hT3⟩
        case measure => simp [vInt]; omega
      · have hdo := reset_sh hst.out HB.out.2
        go_wp2_with (go_at_call 17; refine hdo.mono ?_)
        rintro e W3 ⟨⟨r, rfl⟩, hT3⟩
        replace hT3 := Lib.hid hT3
        go_wp2
        go_roundw
        case rel => exact ⟨k + 1, by go_num, by omega, hT3⟩
        case measure => simp [vInt]; omega
      · have hdo := default_sh hst.out HB.out.2
        go_wp2_with (go_at_call 18; refine hdo.mono ?_)
        rintro e W3 ⟨⟨r, rfl⟩, hT3⟩
        replace hT3 := Lib.hid hT3
        go_wp2
        go_roundw
        case rel => exact ⟨k + 1, by go_num, by omega, hT3⟩
        case measure => simp [vInt]; omega
      · have e0 : (x == 0) = false := beq_eq_false_iff_ne.2 (by omega)
        have e1 : (x == 1) = false := beq_eq_false_iff_ne.2 (by omega)
        have e2 : (x == 2) = false := beq_eq_false_iff_ne.2 (by omega)
        have e3 : (x == 3) = false := beq_eq_false_iff_ne.2 (by omega)
        go_wp2
        go_roundw
        case rel => exact ⟨k + 1, by go_num, by omega, hst⟩
        case measure => simp [vInt]; omega
    · obtain rfl : k = M := by omega
      obtain ⟨⟨L, hL, hS⟩, hs⟩ := hst.out
      clear hst
      have hS := Lib.hid hS
      have hs := Lib.hid hs
      have hpl := hS.out.1.lt
      have hml := hS.out.1.mlt
      go_wp2_with fail
      refine (list_at hS.out).mono ?_
      rintro e W2 ⟨v, rfl, hrow, s2⟩
      have hS2 := Lib.hid (hS.out.sees s2)
      have hs2 := Lib.hid (hs.out.trans s2)
      have hrow := Lib.hid hrow
      clear s2
      obtain ⟨ao2, cap2, rfl, hcap2, hrd⟩ := IntsRd.of_row hrow.out
      replace hrd := Lib.hid hrd
      have hub := up_bounds L (L.length - 1 - C) m C rfl (by omega)
      have hub1 := up_bounds L (L.length - 1 - C) 1 C rfl (by omega)
      have hua := up_add L (L.length - 1 - C) m n C rfl (by omega)
      have hda := dn_add L m n C
      have hdl := dn_le L m C
      have hd1 := dn_one L (up L 1 C) C
      have hd2 := dn_le L 1 (up L 1 C)
      have kA := next_from hS2.out C m _ 0 (walk_up hS2.out m C (by omega) (by omega))
      have kB := next_from hS2.out (up L m C) n _ 0 (walk_up hS2.out n (up L m C) (by omega) (by omega))
      have kC := next_from hS2.out C (m + n : Nat) _ 0 (walk_up hS2.out (m + n) C (by omega) (by omega))
      have kD := prev_from (some ⟨p, 0, none⟩) C m _ 0 (walk_dn hS2.out m C (by omega) (by omega))
      have kE := prev_from (some ⟨p, 0, none⟩) (dn L m C) n _ 0 (walk_dn hS2.out n (dn L m C) (by omega) (by omega))
      have kF := prev_from (some ⟨p, 0, none⟩) C (m + n : Nat) _ 0 (walk_dn hS2.out (m + n) C (by omega) (by omega))
      have kG := next_from hS2.out C 1 _ 0 (walk_up hS2.out 1 C (by omega) (by omega))
      have kH := prev_from (some ⟨p, 0, none⟩) (up L 1 C) 1 _ 0 (walk_dn hS2.out 1 (up L 1 C) (by omega) (by omega))
      rw [hua] at kB
      rw [hda] at kE
      rw [Int.natCast_add] at kC kF
      rw [hL] at hub hub1
      obtain ⟨A1, hA1⟩ : ∃ x, x = up L m C := ⟨_, rfl⟩
      obtain ⟨B1, hB1⟩ : ∃ x, x = up L (m + n) C := ⟨_, rfl⟩
      obtain ⟨A2, hA2⟩ : ∃ x, x = dn L m C := ⟨_, rfl⟩
      obtain ⟨B2, hB2⟩ : ∃ x, x = dn L (m + n) C := ⟨_, rfl⟩
      obtain ⟨B3, hB3⟩ : ∃ x, x = dn L 1 (up L 1 C) := ⟨_, rfl⟩
      obtain ⟨A3, hA3⟩ : ∃ x, x = up L 1 C := ⟨_, rfl⟩
      rw [← hB3] at kH hd1 hd2
      rw [← hA3] at kG kH hub1 hd1 hd2
      rw [← hA1] at kA kB hub
      rw [← hB1] at kB kC
      rw [← hA2] at kD kE hdl
      rw [← hB2] at kE kF
      clear hua hda hA1 hB1 hA2 hB2 hB3 hA3
      replace hd1 := Lib.hid hd1
      obtain ⟨xs, hxs⟩ : ∃ xs, xs = stopsL L := ⟨_, rfl⟩
      rw [← hxs] at hrd hcap2 hrow ⊢
      have hXl : xs.length ≤ 1000 := by rw [hxs]; exact Nat.le_trans (stopsL_len L) (by omega)
      obtain ⟨X, hX⟩ : ∃ X, X = xs.length := ⟨_, rfl⟩
      rw [← hX] at hXl
      replace hxs := Lib.hid hxs
      rw [← hX] at hrd hcap2
      have HX := Lib.hid hX
      rw [← hX]
      rw [← hX] at hrow
      clear hX
      have w1 := IntWalk.i64_in (m : Int) (by omega)
      have w2 := IntWalk.i64_in (n : Int) (by omega)
      have w3 := IntWalk.i64_in ((m : Int) + (n : Int)) (by omega)
      have t1 : decide ((A1 : Int) < (C : Int)) = false := decide_eq_false (by omega)
      have t2 : decide (A1 < C) = false := decide_eq_false (by omega)
      have t3 : decide ((A1 : Int) ≥ (N : Int)) = false := decide_eq_false (by omega)
      have t4 : decide (N ≤ A1) = false := decide_eq_false (by omega)
      have t5 : decide ((A2 : Int) > (C : Int)) = false := decide_eq_false (by omega)
      have t6 : decide (C < A2) = false := decide_eq_false (by omega)
      have t7 : decide ((A2 : Int) < 0) = false := decide_eq_false (by omega)
      clear hub hdl
      go_wp2_with fail
      refine (hidw kA).mono ?_
      rintro e W5 ⟨rfl, hw⟩
      obtain rfl := hw.out
      clear hw kA
      go_wp2_with fail
      refine (hidw kB).mono ?_
      rintro e W5 ⟨rfl, hw⟩
      obtain rfl := hw.out
      clear hw kB
      go_wp2_with fail
      refine (hidw kC).mono ?_
      rintro e W5 ⟨rfl, hw⟩
      obtain rfl := hw.out
      clear hw kC
      go_wp2_with fail
      refine (hidw kD).mono ?_
      rintro e W5 ⟨rfl, hw⟩
      obtain rfl := hw.out
      clear hw kD
      go_wp2_with fail
      refine (hidw kE).mono ?_
      rintro e W5 ⟨rfl, hw⟩
      obtain rfl := hw.out
      clear hw kE
      go_wp2_with fail
      refine (hidw kF).mono ?_
      rintro e W5 ⟨rfl, hw⟩
      obtain rfl := hw.out
      clear hw kF
      go_wp2_with fail
      refine (hidw kG).mono ?_
      rintro e W5 ⟨rfl, hw⟩
      obtain rfl := hw.out
      clear hw kG
      go_wp2_with fail
      refine (hidw kH).mono ?_
      rintro e W5 ⟨rfl, hw⟩
      obtain rfl := hw.out
      clear hw kH
      clear w1 w2 w3 t1 t2 t3 t4 t5 t6 t7
      go_wp2
      go_loopw [22, 23] (fun x y W => ∃ (k : Nat) (st : Bool), x = .bool st ∧ y = .int .i64 k ∧ k ≤ X ∧ RowKit.Hid (st = ((xs.take k).any fun z => z == (C : Int))) ∧ RowKit.Hid (Sees W5 W)) (fun _ y _ => X - (vInt y).toNat)
      case atStart => exact ⟨0, false, rfl, rfl, by omega, Lib.hid rfl, Lib.hid (Sees.refl _)⟩
      case round =>
        obtain ⟨k, st, rfl, rfl, hk, hst, hs5⟩ := hrel
        by_cases hlt : k < X
        · obtain ⟨g, o3, rfl, x1⟩ := hrd.out k hlt
          replace x1 := hs5.out.cell x1
          have hsn := any_snoc xs (C : Int) (k := k) (by rw [← HX.out]; exact hlt)
          rw [← hst.out] at hsn
          have hzr := stops_at (L := L) (i := k) (by rw [← hxs.out, ← HX.out]; exact hlt)
          rw [← hxs.out, hL] at hzr
          obtain ⟨z, hz⟩ : ∃ z, z = xs.getD k 0 := ⟨_, rfl⟩
          rw [← hz] at x1 hsn hzr
          have f1 : decide (z < 0) = false := decide_eq_false (by omega)
          have f2 : decide (z ≥ (N : Int)) = false := decide_eq_false (by omega)
          have f2' : decide ((N : Int) ≤ z) = false := decide_eq_false (by omega)
          clear hst
          by_cases hk0 : k = 0
          · subst hk0
            rw [Nat.add_zero] at x1
            cases st
            · have f3 : decide (((0 : Nat) : Int) > 0) = false := rfl
              obtain ⟨b, hb⟩ : ∃ b, b = (z == (C : Int)) := ⟨_, rfl⟩
              rw [← hb] at hsn
              replace hb := hb.symm
              have hsn := Lib.hid hsn
              clear hz hzr
              go_wp2_with fail
              go_quiet (fail)
              have hs6 : RowKit.Hid (Sees W5 _) := Lib.hid (below_drewN hs5.out nq)
              go_wp2
              go_roundw
              case rel => exact ⟨0 + 1, b, rfl, by go_num, by omega, Lib.hid (by rw [hsn.out]; rfl), hs6⟩
              case measure => simp [vInt]; omega
            · have f3 : decide (((0 : Nat) : Int) > 0) = false := rfl
              have hsn := Lib.hid hsn
              clear hz hzr
              go_wp2_with fail
              go_quiet (fail)
              have hs6 : RowKit.Hid (Sees W5 _) := Lib.hid (below_drewN hs5.out nq)
              go_wp2
              go_roundw
              case rel => exact ⟨0 + 1, true, rfl, by go_num, by omega, Lib.hid (by rw [hsn.out]; rfl), hs6⟩
              case measure => simp [vInt]; omega
          · obtain ⟨j, hj⟩ : ∃ j, j + 1 = k := ⟨k - 1, by omega⟩
            have hsub : (k : Int) - 1 = (j : Int) := by omega
            have hjX : j < X := by omega
            have hw9 := IntWalk.i64_in ((k : Int) - 1) (by omega)
            cases st
            · obtain ⟨g2, o4, heq, x2⟩ := hrd.out j (by omega)
              obtain ⟨rfl, rfl⟩ : g = g2 ∧ o3 = o4 := by simpa using heq
              replace x2 := hs5.out.cell x2
              have hzy := stops_lt (L := L) (i := j) (j := k) (by omega) (by rw [← hxs.out, ← HX.out]; exact hlt)
              rw [← hxs.out, ← hz] at hzy
              obtain ⟨y, hy⟩ : ∃ y, y = xs.getD j 0 := ⟨_, rfl⟩
              rw [← hy] at x2 hzy
              clear hy heq
              have f3 : decide ((k : Int) > 0) = true := decide_eq_true (by omega)
              have f3' : decide (0 < k) = true := decide_eq_true (by omega)
              have f3n : decide (0 < (k : Int)) = true := decide_eq_true (by omega)
              replace hj := Lib.hid hj
              have f4 : decide (z ≤ y) = false := decide_eq_false (by omega)
              obtain ⟨b, hb⟩ : ∃ b, b = (z == (C : Int)) := ⟨_, rfl⟩
              rw [← hb] at hsn
              replace hb := hb.symm
              have hsn := Lib.hid hsn
              clear hz hzr
              go_wp2_with fail
              go_quiet (fail)
              have hs6 : RowKit.Hid (Sees W5 _) := Lib.hid (below_drewN hs5.out nq)
              go_wp2
              go_roundw
              case rel => exact ⟨k + 1, b, rfl, by go_num, by omega, Lib.hid (by rw [hsn.out]; rfl), hs6⟩
              case measure => simp [vInt]; omega
            · obtain ⟨g2, o4, heq, x2⟩ := hrd.out j (by omega)
              obtain ⟨rfl, rfl⟩ : g = g2 ∧ o3 = o4 := by simpa using heq
              replace x2 := hs5.out.cell x2
              have hzy := stops_lt (L := L) (i := j) (j := k) (by omega) (by rw [← hxs.out, ← HX.out]; exact hlt)
              rw [← hxs.out, ← hz] at hzy
              obtain ⟨y, hy⟩ : ∃ y, y = xs.getD j 0 := ⟨_, rfl⟩
              rw [← hy] at x2 hzy
              clear hy heq
              have f3 : decide ((k : Int) > 0) = true := decide_eq_true (by omega)
              have f3' : decide (0 < k) = true := decide_eq_true (by omega)
              have f3n : decide (0 < (k : Int)) = true := decide_eq_true (by omega)
              replace hj := Lib.hid hj
              have f4 : decide (z ≤ y) = false := decide_eq_false (by omega)
              have hsn := Lib.hid hsn
              clear hz hzr
              go_wp2_with fail
              go_quiet (fail)
              have hs6 : RowKit.Hid (Sees W5 _) := Lib.hid (below_drewN hs5.out nq)
              go_wp2
              go_roundw
              case rel => exact ⟨k + 1, true, rfl, by go_num, by omega, Lib.hid (by rw [hsn.out]; rfl), hs6⟩
              case measure => simp [vInt]; omega
        · obtain rfl : k = X := by omega
          have hst2 := hst.out
          rw [HX.out, List.take_length] at hst2
          have hgo : st = true → C < A3 → C ≤ B3 := fun h hlt => by
            rw [h] at hst2
            obtain ⟨z, hz1, hz2⟩ := List.any_eq_true.1 hst2.symm
            have hzC : z = (C : Int) := beq_iff_eq.1 hz2
            rw [hxs.out, mem_stopsL, hzC, getB_nat] at hz1
            exact hd1.out hlt hz1
          clear hst2 hst
          have hSp := Lib.hid (hS2.out.sees hs5.out)
          have hs7 := Lib.hid (hs2.out.trans hs5.out)
          have hrow5 := Lib.hid (row_keeps hrow.out (Keeps.of_sees (F := fun b => b = p ∨ b = mb) hs5.out) (fun g hg e => by have := (hrow.out.lt g hg).1; rcases e with e | e <;> omega))
          have kR := resize_ok hSp.out (N + more) (by omega)
          rw [Int.natCast_add] at kR
          have w1 := IntWalk.i64_in (more : Int) (by omega)
          have w2 := IntWalk.i64_in ((N : Int) + (more : Int)) (by omega)
          clear hs5 hS2 hs2
          cases st
          · go_wp2_with fail
            refine kR.mono ?_
            rintro e W6 ⟨rfl, hS6, hK6⟩
            have kC := cols_at hS6
            rw [resL_length, Int.natCast_add] at kC
            have kZ := resize_ok hS6 N (by omega)
            have hbk := resL_back L (c := N + more) (by omega)
            rw [hL] at hbk
            rw [hbk] at kZ
            go_wp2_with fail
            refine (hidw kC).mono ?_
            rintro e W7 ⟨rfl, hw⟩
            obtain rfl := hw.out
            clear hw kC
            go_wp2_with fail
            refine kZ.mono ?_
            rintro e W8 ⟨rfl, hS8, hK8⟩
            have hrow8 := row_keeps (row_keeps hrow5.out hK6 (fun g hg e => by have := (hrow.out.lt g hg).1; rcases e with e | e <;> omega)) hK8 (fun g hg e => by have := (hrow.out.lt g hg).1; rcases e with e | e <;> omega)
            have kL := listed_at hS8 _ xs (by have h9 := hrow8; rw [HX.out] at h9; exact IntsRd.of_row h9) hxs.out.symm
            rw [← HX.out] at kL
            go_wp2_with fail
            refine kL.mono ?_
            rintro e W9 ⟨rfl, s9⟩
            go_wp2_with fail
            refine (known20 _).mono ?_
            rintro e W10 ⟨rfl, s10⟩
            go_wp2
            go_ret
            exact ⟨rfl, ((((Keeps.of_sees (F := fun b => b = p ∨ b = mb) hs7.out).trans hK6).trans hK8).trans (Keeps.of_sees (s9.trans s10))).sees_end (fun b hb e => by have := HB.out; rcases e with rfl | rfl <;> omega)⟩
          · by_cases hA : C < A3
            · have f1 : decide ((A3 : Int) > (C : Int)) = true := decide_eq_true (by omega)
              have f1' : decide (C < A3) = true := decide_eq_true hA
              have hg := hgo rfl hA
              have f2 : decide ((B3 : Int) < (C : Int)) = false := decide_eq_false (by omega)
              have f2' : decide (B3 < C) = false := decide_eq_false (by omega)
              go_wp2_with fail
              refine kR.mono ?_
              rintro e W6 ⟨rfl, hS6, hK6⟩
              have kC := cols_at hS6
              rw [resL_length, Int.natCast_add] at kC
              have kZ := resize_ok hS6 N (by omega)
              have hbk := resL_back L (c := N + more) (by omega)
              rw [hL] at hbk
              rw [hbk] at kZ
              go_wp2_with fail
              refine (hidw kC).mono ?_
              rintro e W7 ⟨rfl, hw⟩
              obtain rfl := hw.out
              clear hw kC
              go_wp2_with fail
              refine kZ.mono ?_
              rintro e W8 ⟨rfl, hS8, hK8⟩
              have hrow8 := row_keeps (row_keeps hrow5.out hK6 (fun g hg e => by have := (hrow.out.lt g hg).1; rcases e with e | e <;> omega)) hK8 (fun g hg e => by have := (hrow.out.lt g hg).1; rcases e with e | e <;> omega)
              have kL := listed_at hS8 _ xs (by have h9 := hrow8; rw [HX.out] at h9; exact IntsRd.of_row h9) hxs.out.symm
              rw [← HX.out] at kL
              go_wp2_with fail
              refine kL.mono ?_
              rintro e W9 ⟨rfl, s9⟩
              go_wp2_with fail
              refine (known20 _).mono ?_
              rintro e W10 ⟨rfl, s10⟩
              go_wp2
              go_ret
              exact ⟨rfl, ((((Keeps.of_sees (F := fun b => b = p ∨ b = mb) hs7.out).trans hK6).trans hK8).trans (Keeps.of_sees (s9.trans s10))).sees_end (fun b hb e => by have := HB.out; rcases e with rfl | rfl <;> omega)⟩
            · have f1 : decide ((A3 : Int) > (C : Int)) = false := decide_eq_false (by omega)
              have f1' : decide (C < A3) = false := decide_eq_false hA
              go_wp2_with fail
              refine kR.mono ?_
              rintro e W6 ⟨rfl, hS6, hK6⟩
              have kC := cols_at hS6
              rw [resL_length, Int.natCast_add] at kC
              have kZ := resize_ok hS6 N (by omega)
              have hbk := resL_back L (c := N + more) (by omega)
              rw [hL] at hbk
              rw [hbk] at kZ
              go_wp2_with fail
              refine (hidw kC).mono ?_
              rintro e W7 ⟨rfl, hw⟩
              obtain rfl := hw.out
              clear hw kC
              go_wp2_with fail
              refine kZ.mono ?_
              rintro e W8 ⟨rfl, hS8, hK8⟩
              have hrow8 := row_keeps (row_keeps hrow5.out hK6 (fun g hg e => by have := (hrow.out.lt g hg).1; rcases e with e | e <;> omega)) hK8 (fun g hg e => by have := (hrow.out.lt g hg).1; rcases e with e | e <;> omega)
              have kL := listed_at hS8 _ xs (by have h9 := hrow8; rw [HX.out] at h9; exact IntsRd.of_row h9) hxs.out.symm
              rw [← HX.out] at kL
              go_wp2_with fail
              refine kL.mono ?_
              rintro e W9 ⟨rfl, s9⟩
              go_wp2_with fail
              refine (known20 _).mono ?_
              rintro e W10 ⟨rfl, s10⟩
              go_wp2
              go_ret
              exact ⟨rfl, ((((Keeps.of_sees (F := fun b => b = p ∨ b = mb) hs7.out).trans hK6).trans hK8).trans (Keeps.of_sees (s9.trans s10))).sees_end (fun b hb e => by have := HB.out; rcases e with rfl | rfl <;> omega)⟩

set_option maxRecDepth 100000 in
theorem contract (H : Type) (enc : TypeId × Value → H) (W : World) (base : Nat) (args : Array Value) (ds gs : List (DataW H)) (before : List MemPlace)
    (hval : ∀ (j : Nat) t v, Try.f5.params[j]? = some t → args[j]? = some v → Value.okWide Try.prog W .any base t v)
    (hW : DataW.Whole enc Try.prog Try.f5.params.toList Rows.tabsHoldsSpec.vars false W args.toList ds gs before) :
    Calls Try.prog 5 args W fun e W' => ∃ v, e = .returned v ∧ Rows.tabsHoldsSpec.post enc Try.prog Try.f5 false true false false W args v W' := by
  have hW' := hW
  obtain ⟨p, q, hA0, hV, rfl, hfz, hnd⟩ := hW
  have hA : DataW.TrodAll enc Try.prog W 0 (fun _ => true) true Try.f5.params.toList args.toList ds p := hA0
  rw [Try.params5] at hA hval
  obtain ⟨v0, vs0, d0, ds0, p0, q0, hargs, rfl, rfl, h0, r0⟩ := trodAll_cons hA
  obtain ⟨v1, vs1, d1, ds1, p1, q1, rfl, rfl, rfl, h1, r1⟩ := trodAll_cons r0
  obtain ⟨v2, vs2, d2, ds2, p2, q2, rfl, rfl, rfl, h2, r2⟩ := trodAll_cons r1
  obtain ⟨v3, vs3, d3, ds3, p3, q3, rfl, rfl, rfl, h3, r3⟩ := trodAll_cons r2
  obtain ⟨v4, vs4, d4, ds4, p4, q4, rfl, rfl, rfl, h4, r4⟩ := trodAll_cons r3
  obtain ⟨v5, vs5, d5, ds5, p5, q5, rfl, rfl, rfl, h5, r5⟩ := trodAll_cons r4
  obtain ⟨rfl, rfl, rfl⟩ := trodAll_nil r5
  obtain rfl : args = #[v0, v1, v2, v3, v4, v5] := by cases args; simp_all
  obtain ⟨nc, rfl, rfl, rfl, wc⟩ := open_int Try.underlying3 (hval 0 3 v0 rfl rfl) h0
  obtain ⟨asl, xl⟩ := open_acts20 (hval 1 39 v1 rfl rfl) h1
  obtain ⟨ncol, rfl, rfl, rfl, wcol⟩ := open_int Try.underlying3 (hval 2 3 v2 rfl rfl) h2
  obtain ⟨nm, rfl, rfl, rfl, wm⟩ := open_int Try.underlying5 (hval 3 5 v3 rfl rfl) h3
  obtain ⟨nn, rfl, rfl, rfl, wn⟩ := open_int Try.underlying5 (hval 4 5 v4 rfl rfl) h4
  obtain ⟨nmore, rfl, rfl, rfl, wmore⟩ := open_int Try.underlying40 (hval 5 40 v5 rfl rfl) h5
  have xc : -9223372036854775808 ≤ nc ∧ nc ≤ 9223372036854775807 := by simp [Lit.wf, IntKind.min, IntKind.max, IntKind.signed, IntKind.bits] at wc; omega
  have xcol : -9223372036854775808 ≤ ncol ∧ ncol ≤ 9223372036854775807 := by simp [Lit.wf, IntKind.min, IntKind.max, IntKind.signed, IntKind.bits] at wcol; omega
  have xm : 0 ≤ nm ∧ nm ≤ 255 := by simp [Lit.wf, IntKind.min, IntKind.max, IntKind.signed, IntKind.bits] at wm; omega
  have xn : 0 ≤ nn ∧ nn ≤ 255 := by simp [Lit.wf, IntKind.min, IntKind.max, IntKind.signed, IntKind.bits] at wn; omega
  have xmore : 0 ≤ nmore ∧ nmore ≤ 65535 := by simp [Lit.wf, IntKind.min, IntKind.max, IntKind.signed, IntKind.bits] at wmore; omega
  refine (walk nc _ asl ncol nm nn nmore W xc xl xcol xm xn xmore).mono fun e W' ⟨he, hs⟩ => ?_
  subst he
  exact ⟨_, rfl, law_post (tb := 4) laidOut (by
    rw [Try.params5]; intro t ht
    simp only [List.mem_cons, List.not_mem_nil, or_false] at ht
    rcases ht with rfl | rfl | rfl | rfl | rfl | rfl <;> exact ⟨by kernel_rfl, of_decide_eq_true (by kernel_rfl)⟩) hW' rfl (fun ds hl => by
    rw [Try.params5] at hl
    match ds, hl with
    | [_, _, _, _, _, _], _ => rfl) (by kernel_rfl) Try.underlying4 hs⟩

set_option maxRecDepth 100000 in
theorem lifted (os : Os) (started : os.Started) (H : Type) (enc : TypeId × Value → H) :
    ReturnsInHanded {} Try.checked os 5 .any (Rows.tabsHoldsSpec.pre6 enc Try.prog Try.f5 Rows.tabsHoldsRow.domain false) (Rows.tabsHoldsSpec.post enc Try.prog Try.f5 false true false false) := by
  refine returnsInHanded_of_change (C := Try.checked) ownK started (by kernel_rfl) Try.func5
    (ChangeSpec.witness6 (enc := enc) (C := Try.checked) false ⟨#[], #[.int .i64 0, .slice none 0 0, .int .i64 0, .int .u8 0, .int .u8 0, .int .u16 0], []⟩ 8 (by kernel_rfl) (by kernel_rfl) (by kernel_rfl) (by kernel_rfl)) ?_
  intro W base args ds gs before hval0 hW _ _
  exact contract H enc W base args ds gs before hval0 hW

theorem proved : Rows.TabsHoldsSaid :=
  OpenClaim.holds_of_wide 5 Try.f5 rfl rfl rfl rfl rfl rfl rfl ⟨rfl, rfl, rfl, rfl, rfl⟩ rfl rfl rfl rfl rfl (by kernel_rfl) Try.func5 (by kernel_rfl)
    (of_decide_eq_true (by kernel_rfl)) (by unfold Func.isWrapper; first | (rw [if_pos (by decide +kernel)]; kernel_rfl) | (rw [if_neg (by decide +kernel)]; exact ⟨rfl, rfl⟩))
    (fun os started H enc _ => lifted os started H enc)
end tabsHolds
end Go.Proofs.Ytdblmoaimghplaa
