/- The reference's Clean (26): what it meets. No condition. -/
import Derived.Test.YtmmofcfhenjffaaDoorTiR
import Derived.Laws.IdiomStrings
namespace Go.Proofs.YtmmofcfhenjffaaDoor
set_option linter.unusedVariables false
set_option linter.unusedSimpArgs false
open Go.RowKit Go.Lib

theorem runes_end (X : ByteArray) (n i : Nat) (acc : Array Value) (h : X.size ≤ i) : Conv.runesFrom X n i acc = acc := by
  cases n with
  | zero => rfl
  | succ n =>
    unfold Conv.runesFrom
    rw [if_neg (by omega)]
theorem runes_one (X : ByteArray) (r : Nat) (h : 0 < X.size) (hd : Utf8.decode X 0 = (r, X.size)) : Conv.runesFrom X X.size 0 #[] = #[.int .i32 (r : Int)] := by
  obtain ⟨n, hn⟩ : ∃ n, X.size = n + 1 := ⟨X.size - 1, by omega⟩
  rw [hn]
  unfold Conv.runesFrom
  rw [if_pos (by omega), hd]
  simp only
  rw [runes_end X n _ _ (by omega)]
  rfl
/-- The bytes of a valid rune, cut off: they decode to it. -/
theorem seg_dec (R : ByteArray) (h0 : 0 < R.size) (hv : ¬ ((Utf8.decode R 0).1 = 65533 ∧ (Utf8.decode R 0).2 = 1)) : (R.extract 0 (Utf8.decode R 0).2).size = (Utf8.decode R 0).2 ∧ Utf8.decode (R.extract 0 (Utf8.decode R 0).2) 0 = Utf8.decode R 0 := by
  have hne : R.data.toList ≠ [] := fun e => by
    have : R.size = 0 := by rw [Lib.size_eq, e]; rfl
    omega
  have hd : ∀ X : ByteArray, Lib.decodeL X.data.toList = Utf8.decode X 0 := fun X => by rw [← Lib.decodeL_drop]; rfl
  have hle := decodeL_le R.data.toList hne
  have ht := take_decode R.data.toList [] hne (by rw [hd]; exact hv)
  rw [List.append_nil] at ht
  rw [hd] at hle ht
  refine ⟨?_, ?_⟩
  · rw [Lib.size_eq, Lib.extract_from_zero, List.length_take]
    omega
  · rw [← hd (R.extract 0 _), Lib.extract_from_zero]
    exact ht
theorem rune0 {b : Nat} {T : TypeId} {fr : Nat × Nat} {r : Int} {Y : Array Value} (W : World) (h : W.heap[b]? = some (.cells (#[.int .i32 r] ++ Y) T fr)) : W.cell? ⟨b, 0, none⟩ = some (.int .i32 r) := by
  rw [cell_of_row _ _ _ _ _ _ h, Array.getElem?_append_left (by simp)]
  rfl
theorem rune_made (W : World) (r : Int) (Y : Array Value) (T : TypeId) : (W.drew.alloc (.cells (#[.int .i32 r] ++ Y) T)).cell? ⟨W.heap.size, 0, none⟩ = some (.int .i32 r) :=
  rune0 (W.drew.alloc (.cells (#[.int .i32 r] ++ Y) T)) (heap_alloc_new W.drew _)
theorem badR_of : ∀ (p : Nat × Nat), ¬ (p.1 = 65533 ∧ p.2 = 1) → badR p = (decide ((p.1 : Int) < 32) || (decide (127 ≤ (p.1 : Int)) && decide ((p.1 : Int) ≤ 159)))
  | (a, b), h => by
    have e : (a == 65533 && b == 1) = false := by
      rw [Bool.and_eq_false_iff, beq_eq_false_iff_ne, beq_eq_false_iff_ne]
      simp only at h
      omega
    unfold badR
    simp only [e, Bool.false_or]
    rw [decide_eq_decide.2 (show (a < 32) ↔ ((a : Int) < 32) by omega), decide_eq_decide.2 (show (127 ≤ a) ↔ (127 ≤ (a : Int)) by omega), decide_eq_decide.2 (show (a ≤ 159) ↔ ((a : Int) ≤ 159) by omega)]
set_option maxHeartbeats 4000000 in
set_option maxRecDepth 100000 in
theorem rclean_any (s : ByteArray) (hs : s.size ≤ 1000000) (w : World) :
    Calls Tryd.prog 11 #[.string s] w fun e w' => e = .returned (.string ⟨(cleanT s.data.toList).toArray⟩) ∧ Sees w w' := by
  obtain ⟨V, hV⟩ : ∃ V : ByteArray, V = ⟨(cleanT s.data.toList).toArray⟩ := ⟨_, rfl⟩
  rw [← hV]
  have hVd : RowKit.Hid (V.data.toList = cleanT s.data.toList) := Lib.hid (by rw [hV])
  clear hV
  have hr := Sees.refl w
  go_enter Tryd.func11, Tryd.ntmps11
  go_wp2
  go_loopw [0, 3] (fun x y wr => ∃ (R O : ByteArray) (f : Nat), x = .string R ∧ y = .string O ∧ R.size ≤ f ∧ f ≤ s.size ∧ O.size ≤ 256 ∧ RowKit.Hid (cleanL f R.data.toList O.data.toList = cleanT s.data.toList) ∧ Sees w wr) (fun x _ _ => match x with | .string R => R.size | _ => 0)
  case atStart =>
    exact ⟨s, ⟨#[]⟩, s.size, rfl, rfl, Nat.le_refl _, Nat.le_refl _, by decide, Lib.hid (by unfold cleanT; rw [Lib.size_eq]), hr⟩
  case round =>
    obtain ⟨R, O, f, rfl, rfl, hRf, hfs, hO, hm, hse⟩ := hrel
    by_cases h0 : 0 < R.size
    · have hR6 : R.size ≤ 281474976710656 := by omega
      have hfi := first_any R hR6 h0
      obtain ⟨f, rfl⟩ : ∃ g, f = g + 1 := ⟨f - 1, by omega⟩
      have hne : R.data.toList ≠ [] := fun e => by
        have : R.size = 0 := by rw [Lib.size_eq, e]; rfl
        omega
      have hd0 : Lib.decodeL R.data.toList = Utf8.decode R 0 := by rw [← Lib.decodeL_drop]; rfl
      have hwid := Lib.decodeL_width R.data.toList
      have hwle := Lib.decodeL_le R.data.toList hne
      have hm2 := hm.out
      simp only [cleanL, if_neg hne] at hm2
      unfold firstN at hfi
      rw [hd0] at hm2 hfi hwid hwle
      rw [← Lib.size_eq] at hwle
      have hsg := seg_dec R h0
      clear hne hd0 hm
      by_cases hv : (Utf8.decode R 0).1 = 65533 ∧ (Utf8.decode R 0).2 = 1
      · rw [if_pos hv] at hfi
        have hb : badR (Utf8.decode R 0) = true := by unfold badR; rw [hv.1, hv.2]; rfl
        rw [hb, if_pos rfl, hv.2, ← Lib.extract_to_end] at hm2
        have hc1 : ∀ W, (Instr.sliceAt 9 (.string R) (some (.int .i64 1)) none none).run Tryd.prog W = .ok (.string (R.extract 1 R.size)) W := fun W => cut_end R .i64 1 (by omega) W
        have hx : (R.extract 1 R.size).size ≤ f := by rw [ByteArray.size_extract]; omega
        have hx2 : (R.extract 1 R.size).size < R.size := by rw [ByteArray.size_extract]; omega
        replace hm2 := Lib.hid hm2
        clear hsg hv hb
        generalize R.extract 1 R.size = R2 at hc1 hx hx2 hm2
        go_wp2_with (go_at_call 27; refine (hfi _).mono ?_)
        rintro e W1 ⟨rfl, s1⟩
        go_wp2
        go_roundw
        case rel => exact ⟨R2, O, f, rfl, rfl, hx, by omega, hO, hm2, hse.trans s1⟩
        case measure => exact hx2
      · rw [if_neg hv] at hfi
        obtain ⟨hX1, hX2⟩ := hsg hv
        have hb := badR_of (Utf8.decode R 0) hv
        have hsh := shown_any ((Utf8.decode R 0).1 : Int)
        rw [← hb] at hsh
        have hrun := runes_one (R.extract 0 (Utf8.decode R 0).2) (Utf8.decode R 0).1 (by omega) (by rw [hX2, hX1])
        have hc1 := cut_head R .i64 (Utf8.decode R 0).2 hwle
        have hc2 := cut_end R .i64 (Utf8.decode R 0).2 hwle
        have e1 : (R.extract 0 (Utf8.decode R 0).2).data.toList = R.data.toList.take (Utf8.decode R 0).2 := Lib.extract_from_zero _ _
        have e2 : (R.extract (Utf8.decode R 0).2 R.size).data.toList = R.data.toList.drop (Utf8.decode R 0).2 := Lib.extract_to_end _ _
        rw [← e1, ← e2] at hm2
        have hx : (R.extract (Utf8.decode R 0).2 R.size).size = R.size - (Utf8.decode R 0).2 := by rw [ByteArray.size_extract]; omega
        generalize R.extract (Utf8.decode R 0).2 R.size = R2 at hc2 hx hm2 e2
        generalize R.extract 0 (Utf8.decode R 0).2 = X at hc1 hm2 e1 hX1 hX2 hrun
        clear hsg hv hb hX2 e1 e2
        generalize badR (Utf8.decode R 0) = bd at hm2 hsh
        generalize (Utf8.decode R 0).1 = r at hsh hrun
        generalize (Utf8.decode R 0).2 = n at *
        replace hm2 := Lib.hid hm2
        replace hX1 := Lib.hid hX1
        replace hx := Lib.hid hx
        replace hrun := Lib.hid hrun
        go_wp2_with (go_at_call 27; refine (hfi _).mono ?_)
        rintro e W1 ⟨rfl, s1⟩
        have hn0 : ((n : Int) == 0) = false := beq_eq_false_iff_ne.2 (by omega)
        go_wp2
        rw [run_runes_of_string W1 9 25 21 X Tryd.underlying9 Tryd.underlying25 Tryd.underlying21 (by rw [hrun.out]; show 1 ≤ 70368744177664; omega), hrun.out]
        simp only [Result.andThen]
        rw [Oper.upon_value]
        generalize grownCap W1 (#[Value.int IntKind.i32 (r : Int)]).size 0 21 = cap
        have e0 := rune_made W1 (r : Int) (Array.replicate (cap - (#[Value.int IntKind.i32 (r : Int)]).size) (.int .i32 0)) 21
        have S2 : Sees w (W1.drew.alloc (.cells (#[Value.int IntKind.i32 (r : Int)] ++ Array.replicate (cap - (#[Value.int IntKind.i32 (r : Int)]).size) (.int .i32 0)) 21)) := (hse.trans s1).drew.alloc _
        have q0 : W1.drew.heap.size = W1.heap.size := rfl
        replace hse := Lib.hid hse
        generalize W1.drew.alloc _ = W2 at e0 S2 ⊢
        generalize W1.heap.size = g at *
        have hsz : (#[Value.int IntKind.i32 (r : Int)]).size = 1 := rfl
        rw [hsz]
        clear hsz
        have hm3 := hm2.out
        cases bd
        case true =>
          rw [if_pos rfl] at hm3
          replace hm3 := Lib.hid hm3
          go_wp2_with (go_at_call 28; refine (hsh _).mono ?_)
          try (rintro e W ⟨rfl, rfl⟩; go_wp2)
          go_roundw
          case rel => exact ⟨R2, O, f, rfl, rfl, by rw [hx.out]; omega, by omega, hO, hm3, S2⟩
          case measure => show R2.size < R.size; rw [hx.out]; omega
        case false =>
          rw [if_neg (by decide), ← Lib.size_eq] at hm3
          by_cases hbig : 256 < O.size + n
          · rw [if_pos hbig] at hm3
            have hOV : RowKit.Hid (O = V) := Lib.hid (by
              apply ByteArray.ext
              rw [← Array.toList_inj, hVd.out, ← hm3])
            clear hm3
            go_wp2_with (go_at_call 28; refine (hsh _).mono ?_)
            try (rintro e W ⟨rfl, rfl⟩; go_wp2)
            go_ret
            exact ⟨by rw [← hOV.out]; rfl, S2⟩
          · rw [if_neg hbig] at hm3
            replace hm3 := Lib.hid hm3
            go_wp2_with (go_at_call 28; refine (hsh _).mono ?_)
            rintro e W ⟨rfl, q⟩
            have S3 : Sees w W := q ▸ S2
            clear q
            have hOX : ¬ (O.size + X.size > 281474976710656) := by rw [hX1.out]; omega
            go_wp2
            go_roundw
            case rel => exact ⟨R2, O ++ X, f, rfl, rfl, by rw [hx.out]; omega, by omega, by rw [ByteArray.size_append, hX1.out]; omega, Lib.hid (by rw [show (O ++ X).data.toList = O.data.toList ++ X.data.toList from by rw [ByteArray.data_append, Array.toList_append]]; exact hm3.out), S3⟩
            case measure => show R2.size < R.size; rw [hx.out]; omega
    · have hnil : R.data.toList = [] := by
        have : R.data.toList.length = 0 := by have := Lib.size_eq R; omega
        exact List.eq_nil_of_length_eq_zero this
      have hOV : RowKit.Hid (O = V) := Lib.hid (by
        apply ByteArray.ext
        rw [← Array.toList_inj, hVd.out, ← hm.out, hnil, cleanL_nil])
      clear hnil
      go_wp2
      go_ret
      exact ⟨by rw [← hOV.out]; rfl, hse⟩
end Go.Proofs.YtmmofcfhenjffaaDoor
