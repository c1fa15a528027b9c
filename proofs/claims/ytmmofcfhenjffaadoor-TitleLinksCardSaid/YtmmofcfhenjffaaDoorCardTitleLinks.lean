/- TitleLinks returns true for every input, and leaves its arguments alone; the two tables start as the program's text lays them (the card ties that). -/
import Derived.Test.YtmmofcfhenjffaaDoorTiO
import Derived.Test.YtmmofcfhenjffaaDoorTiL
namespace Go.Proofs.YtmmofcfhenjffaaDoor
set_option linter.unusedVariables false
set_option linter.unusedSimpArgs false
namespace titleLinks
open Go.ChangeShapes Go.WideShapes Go.ChangeAt Go.RowKit

theorem conv_byte (w : World) (b : Nat) (n : Int) (T : TypeId) (fr : Nat × Nat) (h : w.heap[b]? = some (.cells #[.int .u8 n] T fr)) :
    (convert 41 9 (.slice (some ⟨b, 0, none⟩) 1 1)).run Tryd.prog w = .ok (.string ⟨#[UInt8.ofNat n.toNat]⟩) w := by
  rw [run_convert_bytes_string w _ _ 5 _ _ _ Tryd.underlying41 Tryd.underlying5 Tryd.underlying9]
  refine run_bytesToString w ⟨b, 0, none⟩ 1 1 [n] ?_
  rw [run_loadCells w ⟨b, 0, none⟩ 1 (fun _ => .int .u8 n) (fun j hj => ?_)]
  · rfl
  · obtain rfl : j = 0 := by omega
    rw [show (⟨b, 0, none⟩ : Addr).add 0 = ⟨b, 0, none⟩ from rfl, Go.cell_of_row w b 0 _ _ _ h]
    rfl
set_option maxHeartbeats 4000000 in
set_option maxRecDepth 100000 in
theorem walk (x y b : Int) (w : World) (hst0 : Std w) (hx : 0 ≤ x ∧ x ≤ 65535) (hy : 0 ≤ y ∧ y ≤ 255) (_hb : 0 ≤ b ∧ b ≤ 255) :
    Calls Tryd.prog 7 #[.int .u16 x, .int .u8 y, .int .u8 b] w fun e w' => e = .returned (.bool true) ∧ Sees w w' := by
  have hw := Sees.refl w
  obtain ⟨n, rfl⟩ : ∃ n : Nat, x = (n : Int) := ⟨x.toNat, by omega⟩
  obtain ⟨m, rfl⟩ : ∃ m : Nat, y = (m : Int) := ⟨y.toNat, by omega⟩
  by_cases h1 : 600 < n
  · have t1 : decide ((n : Int) > 600) = true := decide_eq_true (by omega)
    go_enter Tryd.func7, Tryd.ntmps7
    go_wp2_with fail
    refine (known26 _ hst0).mono ?_
    rintro e W1 ⟨rfl, s1⟩
    go_wp2
    go_ret
    exact ⟨rfl, s1⟩
  have t1 : decide ((n : Int) > 600) = false := decide_eq_false (by omega)
  by_cases h2 : 80 < m
  · have t2 : decide ((m : Int) > 80) = true := decide_eq_true (by omega)
    go_enter Tryd.func7, Tryd.ntmps7
    go_wp2_with fail
    refine (known26 _ hst0).mono ?_
    rintro e W1 ⟨rfl, s1⟩
    go_wp2
    go_ret
    exact ⟨rfl, s1⟩
  have t2 : decide ((m : Int) > 80) = false := decide_eq_false (by omega)
  obtain ⟨Y, hY⟩ : ∃ Y : ByteArray, Y = ⟨#[UInt8.ofNat b.toNat]⟩ := ⟨_, rfl⟩
  have hcv := fun W p T fr h => conv_byte W p b T fr h
  rw [← hY] at hcv
  have hYs : Y.size = 1 := by rw [hY]; rfl
  have hIc := fun W => times_at Y m (by omega) (by omega) W
  have hT := fun W => times_at Y n (by omega) (by omega) W
  have hYl : Y.data.toList.length = 1 := by rw [← Lib.size_eq]; exact hYs
  obtain ⟨I, hIe⟩ : ∃ I : ByteArray, I = ⟨((List.replicate m Y.data.toList).flatten).toArray⟩ := ⟨_, rfl⟩
  obtain ⟨T, hTe⟩ : ∃ T : ByteArray, T = ⟨((List.replicate n Y.data.toList).flatten).toArray⟩ := ⟨_, rfl⟩
  have hIs : I.size ≤ 80 := by rw [hIe, Lib.size_eq]; simp only [len_rep, hYl]; omega
  have hTs : T.size ≤ 600 := by rw [hTe, Lib.size_eq]; simp only [len_rep, hYl]; omega
  rw [← hIe] at hIc
  rw [← hTe] at hT
  clear hIe hTe hY hYl hYs
  have c8 : ((m : Int)) ≤ 255 := by omega
  have hZ : RowKit.Hid (((((⟨#[56, 59, 105, 100, 61]⟩ : ByteArray) ++ I) ++ ⟨#[59]⟩) ++ T).size ≤ 1000000) := Lib.hid (by
    simp only [ByteArray.size_append]
    have : (⟨#[56, 59, 105, 100, 61]⟩ : ByteArray).size = 5 := rfl
    have : (⟨#[59]⟩ : ByteArray).size = 1 := rfl
    omega)
  obtain ⟨q, I2, T2, er, hp⟩ := parse_named ((((⟨#[56, 59, 105, 100, 61]⟩ : ByteArray) ++ I) ++ ⟨#[59]⟩) ++ T)
  replace hp := Lib.hid hp
  have hR := fun W => rparse_at _ q I2 T2 er hZ.out hp.out W
  have hIsC := fun W => ris_any 2 I T (by omega) (by omega) W
  have hTx := fun W => rtext_any 2 I T (by omega) (by omega) W
  have hIH := Lib.hid hIs
  have hTH := Lib.hid hTs
  go_enter Tryd.func7, Tryd.ntmps7
  go_wp2_with fail
  refine wpFrom_go (by kernel_rfl) (by kernel_rfl) (fun hB w2 hw2 => ?_)
  have hval : ∀ x v, (Spec.is x).val v = x := fun _ _ => rfl
  have hval2 : ∀ V v, (Spec.so V).val v = v := fun _ _ => rfl
  have hst : segStay (Sees w2) [.is (.int .u8 b), .so (fun x W => ∃ p, x = .slice (some ⟨p, 0, none⟩) 1 1 ∧ W.heap[p]? = some (.cells #[.int .u8 b] 5 (0, 0))), .is (.string Y), .is (.int .u8 (m : Int)), .is (.int .i64 (m : Int)), .is (.string I),
      .is (.int .u8 b), .so (fun x W => ∃ p, x = .slice (some ⟨p, 0, none⟩) 1 1 ∧ W.heap[p]? = some (.cells #[.int .u8 b] 5 (0, 0))), .is (.string Y), .is (.int .u16 (n : Int)), .is (.int .i64 (n : Int)), .is (.string T), .is (cmd 2 I T),
      .so (fun x W => ∃ p, x = .pointer (some ⟨p, 0, none⟩) ∧ w2.heap.size ≤ p ∧ CmdAt W p 0 ⟨#[]⟩ ⟨#[]⟩)] :=
    ⟨fun u W W' _ ⟨p, h1, h2⟩ hs => ⟨p, h1, seen_row hs h2⟩, fun u W W' _ ⟨p, h1, h2⟩ hs => ⟨p, h1, seen_row hs h2⟩, fun u W W' _ ⟨p, h1, h2, h3⟩ hs => ⟨p, h1, h2, h3.sees hs⟩, trivial⟩
  refine wpFrom_any 14 _ hB (by kernel_rfl) rfl hst (by simp only [List.cons_append, List.nil_append, List.drop_succ_cons, List.drop_zero, List.take_succ_cons, List.take_zero, Nat.reduceSub]; rfl) ?_
  refine ⟨fun vs W hI hV => .inl ⟨by clear hI hV hst; go_simp, .inl (by clear hI hV hst; (try simp only [Act.put, hval, hval2, List.setIfInBounds_toArray, List.set_cons_zero, List.set_cons_succ]); go_simp)⟩, ?_⟩
  refine ⟨fun vs W hI hV => .inl ⟨by clear hI hV hst; (try simp only [Act.put, hval, hval2, List.setIfInBounds_toArray, List.set_cons_zero, List.set_cons_succ]); go_simp, .inl ⟨.slice (some ⟨W.heap.size, 0, none⟩) 1 1, W.alloc (.cells #[.int .u8 b] 5), by clear hI hV hst; (try simp only [Act.put, hval, hval2, List.setIfInBounds_toArray, List.set_cons_zero, List.set_cons_succ]); go_simp, rgGood_mk hst hI ⟨_, rfl, heap_alloc_new _ _⟩ ((Sees.refl W).alloc _)⟩⟩, ?_⟩
  refine ⟨fun vs W hI hV => .inl ⟨by clear hI hV hst; (try simp only [Act.put, hval, hval2, List.setIfInBounds_toArray, List.set_cons_zero, List.set_cons_succ]); go_simp, .inl (by obtain ⟨p, ep, hrow⟩ := hV 1 _ (by kernel_rfl) rfl; have hc := hcv W p _ _ hrow; clear hI hV hst; (try simp only [Act.put, hval, hval2, List.setIfInBounds_toArray, List.set_cons_zero, List.set_cons_succ]); go_simp)⟩, ?_⟩
  refine ⟨fun vs W hI hV => .inl ⟨by clear hI hV hst; go_simp, .inl (by clear hI hV hst; (try simp only [Act.put, hval, hval2, List.setIfInBounds_toArray, List.set_cons_zero, List.set_cons_succ]); go_simp)⟩, ?_⟩
  refine ⟨fun vs W hI hV => .inl ⟨by clear hI hV hst; go_simp, .inl (by have hw1 := IntWalk.i64_in (m : Int) (by omega); clear hI hV hst; (try simp only [Act.put, hval, hval2, List.setIfInBounds_toArray, List.set_cons_zero, List.set_cons_succ]); go_simp)⟩, ?_⟩
  refine ⟨fun vs W hI hV => .inl ⟨by clear hI hV hst; (try simp only [Act.put, hval, hval2, List.setIfInBounds_toArray, List.set_cons_zero, List.set_cons_succ]); go_simp, .inr (.inr ⟨18, #[.string Y, .int .i64 (m : Int)], by clear hI hV hst; (try simp only [Act.put, hval, hval2, List.setIfInBounds_toArray, List.set_cons_zero, List.set_cons_succ]); go_simp, hIc W⟩)⟩, ?_⟩
  refine ⟨fun vs W hI hV => .inl ⟨by clear hI hV hst; go_simp, .inl (by clear hI hV hst; (try simp only [Act.put, hval, hval2, List.setIfInBounds_toArray, List.set_cons_zero, List.set_cons_succ]); go_simp)⟩, ?_⟩
  refine ⟨fun vs W hI hV => .inl ⟨by clear hI hV hst; (try simp only [Act.put, hval, hval2, List.setIfInBounds_toArray, List.set_cons_zero, List.set_cons_succ]); go_simp, .inl ⟨.slice (some ⟨W.heap.size, 0, none⟩) 1 1, W.alloc (.cells #[.int .u8 b] 5), by clear hI hV hst; (try simp only [Act.put, hval, hval2, List.setIfInBounds_toArray, List.set_cons_zero, List.set_cons_succ]); go_simp, rgGood_mk hst hI ⟨_, rfl, heap_alloc_new _ _⟩ ((Sees.refl W).alloc _)⟩⟩, ?_⟩
  refine ⟨fun vs W hI hV => .inl ⟨by clear hI hV hst; (try simp only [Act.put, hval, hval2, List.setIfInBounds_toArray, List.set_cons_zero, List.set_cons_succ]); go_simp, .inl (by obtain ⟨p, ep, hrow⟩ := hV 7 _ (by kernel_rfl) rfl; have hc := hcv W p _ _ hrow; clear hI hV hst; (try simp only [Act.put, hval, hval2, List.setIfInBounds_toArray, List.set_cons_zero, List.set_cons_succ]); go_simp)⟩, ?_⟩
  refine ⟨fun vs W hI hV => .inl ⟨by clear hI hV hst; go_simp, .inl (by clear hI hV hst; (try simp only [Act.put, hval, hval2, List.setIfInBounds_toArray, List.set_cons_zero, List.set_cons_succ]); go_simp)⟩, ?_⟩
  refine ⟨fun vs W hI hV => .inl ⟨by clear hI hV hst; go_simp, .inl (by have hw1 := IntWalk.i64_in (n : Int) (by omega); clear hI hV hst; (try simp only [Act.put, hval, hval2, List.setIfInBounds_toArray, List.set_cons_zero, List.set_cons_succ]); go_simp)⟩, ?_⟩
  refine ⟨fun vs W hI hV => .inl ⟨by clear hI hV hst; (try simp only [Act.put, hval, hval2, List.setIfInBounds_toArray, List.set_cons_zero, List.set_cons_succ]); go_simp, .inr (.inr ⟨18, #[.string Y, .int .i64 (n : Int)], by clear hI hV hst; (try simp only [Act.put, hval, hval2, List.setIfInBounds_toArray, List.set_cons_zero, List.set_cons_succ]); go_simp, hT W⟩)⟩, ?_⟩
  refine ⟨fun vs W hI hV => .inl ⟨by clear hI hV hst; (try simp only [Act.put, hval, hval2, List.setIfInBounds_toArray, List.set_cons_zero, List.set_cons_succ]); go_simp, .inr (.inr ⟨17, #[.string I, .string T], by clear hI hV hst; (try simp only [Act.put, hval, hval2, List.setIfInBounds_toArray, List.set_cons_zero, List.set_cons_succ]); go_simp, link_at I T W⟩)⟩, ?_⟩
  refine ⟨fun vs W hI hV => .inl ⟨by clear hI hV hst; (try simp only [Act.put, hval, hval2, List.setIfInBounds_toArray, List.set_cons_zero, List.set_cons_succ]); go_simp, .inl ⟨.pointer (some ⟨W.heap.size, 0, none⟩), W.alloc (.cells #[.int .i64 0, .string ⟨#[]⟩, .string ⟨#[]⟩] 30), by clear hI hV hst; (try simp only [Act.put, hval, hval2, List.setIfInBounds_toArray, List.set_cons_zero, List.set_cons_succ]); go_simp, rgGood_mk hst hI ⟨_, rfl, hI.size, CmdAt.new _ _ _ _⟩ ((Sees.refl W).alloc _)⟩⟩, ?_⟩
  intro vs W hI hV
  obtain ⟨c, ec, hcb, hC⟩ := hV 13 _ rfl
  obtain ⟨q0, q1, q2⟩ := hC.cs
  obtain ⟨f0, f1, f2⟩ := hC.fr
  have HS := Lib.hid (hw2.trans hI)
  have HC := Lib.hid hC
  have Hcb := Lib.hid (Nat.le_trans hw2.size hcb)
  clear hV hI hst hcb hC hw2
  go_simp
  clear ec
  refine wpFrom_to 15 hB (fun _ _ _ _ _ h => h) (by kernel_rfl) (by simp only [List.cons_append, List.nil_append, List.drop_succ_cons, List.drop_zero, List.take_succ_cons, List.take_zero, Nat.reduceSub]; rfl) ?_
  go_wp2
  refine wpFrom_end rfl ?_
  have S0 := Lib.hid (sees3 HS.out Hcb.out (.int .i64 2) (.string I) (.string T))
  have C0 := Lib.hid (HC.out.set3 2 I T)
  clear q0 q1 q2 f0 f1 f2 HS HC Hcb hval hval2
  generalize ((W.setCell ⟨c, 0, none⟩ (.int .i64 2)).setCell ⟨c, 1, none⟩ (.string I)).setCell ⟨c, 2, none⟩ (.string T) = W3 at S0 C0 ⊢
  obtain ⟨q0, q1, q2⟩ := C0.out.cs
  by_cases hok : cmdOk 2 I.data.toList T.data.toList
  · rw [decide_eq_true hok] at hIsC
    obtain ⟨X, _hX, hV, _, hD⟩ := text_ok hok
    rw [mk_of hD.symm] at hTx
    clear hD hok
    replace hV := Lib.hid hV
    go_wp2_with fail
    refine (hIsC _).mono ?_
    rintro e W4 ⟨rfl, s⟩
    replace S0 := Lib.hid (S0.out.trans s)
    replace C0 := Lib.hid (C0.out.sees s)
    clear s q0 q1 q2
    obtain ⟨q0, q1, q2⟩ := C0.out.cs
    go_wp2_with fail
    refine (hTx _).mono ?_
    rintro e W5 ⟨rfl, s⟩
    replace S0 := Lib.hid (S0.out.trans s)
    replace C0 := Lib.hid (C0.out.sees s)
    clear s q0 q1 q2
    obtain ⟨q0, q1, q2⟩ := C0.out.cs
    go_wp2_with fail
    refine (hR _).mono ?_
    rintro e W6 ⟨rfl, s⟩
    replace S0 := Lib.hid (S0.out.trans s)
    replace C0 := Lib.hid (C0.out.sees s)
    clear s q0 q1 q2
    obtain ⟨q0, q1, q2⟩ := C0.out.cs
    have D0 := CmdAt.new W6 q I2 T2
    have s := (Sees.refl W6).alloc (.cells #[.int .i64 q, .string I2, .string T2] 30)
    replace S0 := Lib.hid (S0.out.trans s)
    replace C0 := Lib.hid (C0.out.sees s)
    replace D0 := Lib.hid D0
    clear s q0 q1 q2
    obtain ⟨q0, q1, q2⟩ := C0.out.cs
    obtain ⟨x0, x1, x2⟩ := D0.out.cs
    have hst := hst0.sees S0.out
    go_wp2_with fail
    refine (texts_at 2 I T X 0 (by omega) (by omega) _ hst hV.out).mono ?_
    rintro e W7 ⟨rfl, s⟩
    replace S0 := Lib.hid (S0.out.trans s)
    replace C0 := Lib.hid (C0.out.sees s)
    replace D0 := Lib.hid (D0.out.sees s)
    replace hst := hst.sees s
    clear s q0 q1 q2 x0 x1 x2
    obtain ⟨q0, q1, q2⟩ := C0.out.cs
    obtain ⟨x0, x1, x2⟩ := D0.out.cs
    go_wp2_with fail
    refine (parses_at _ q I2 T2 er hZ.out _ hst hp.out).mono ?_
    rintro e W8 ⟨rfl, s⟩
    replace S0 := Lib.hid (S0.out.trans s)
    replace C0 := Lib.hid (C0.out.sees s)
    replace D0 := Lib.hid (D0.out.sees s)
    replace hst := hst.sees s
    clear s q0 q1 q2 x0 x1 x2
    obtain ⟨q0, q1, q2⟩ := C0.out.cs
    obtain ⟨x0, x1, x2⟩ := D0.out.cs
    go_wp2_with fail
    refine (known26 _ hst).mono ?_
    rintro e W9 ⟨rfl, s⟩
    replace S0 := Lib.hid (S0.out.trans s)
    replace C0 := Lib.hid (C0.out.sees s)
    replace D0 := Lib.hid (D0.out.sees s)
    replace hst := hst.sees s
    clear s q0 q1 q2 x0 x1 x2
    obtain ⟨q0, q1, q2⟩ := C0.out.cs
    obtain ⟨x0, x1, x2⟩ := D0.out.cs
    go_wp2
    go_ret
    exact ⟨rfl, S0.out⟩
  · rw [decide_eq_false hok] at hIsC
    have hV := Lib.hid (textV_no hok)
    clear hok hTx
    go_wp2_with fail
    refine (hIsC _).mono ?_
    rintro e W4 ⟨rfl, s⟩
    replace S0 := Lib.hid (S0.out.trans s)
    replace C0 := Lib.hid (C0.out.sees s)
    clear s q0 q1 q2
    obtain ⟨q0, q1, q2⟩ := C0.out.cs
    go_wp2_with fail
    refine (hR _).mono ?_
    rintro e W6 ⟨rfl, s⟩
    replace S0 := Lib.hid (S0.out.trans s)
    replace C0 := Lib.hid (C0.out.sees s)
    clear s q0 q1 q2
    obtain ⟨q0, q1, q2⟩ := C0.out.cs
    have D0 := CmdAt.new W6 q I2 T2
    have s := (Sees.refl W6).alloc (.cells #[.int .i64 q, .string I2, .string T2] 30)
    replace S0 := Lib.hid (S0.out.trans s)
    replace C0 := Lib.hid (C0.out.sees s)
    replace D0 := Lib.hid D0
    clear s q0 q1 q2
    obtain ⟨q0, q1, q2⟩ := C0.out.cs
    obtain ⟨x0, x1, x2⟩ := D0.out.cs
    have hst := hst0.sees S0.out
    go_wp2_with fail
    refine (texts_at 2 I T ⟨#[]⟩ 2 (by omega) (by omega) _ hst hV.out).mono ?_
    rintro e W7 ⟨rfl, s⟩
    replace S0 := Lib.hid (S0.out.trans s)
    replace C0 := Lib.hid (C0.out.sees s)
    replace D0 := Lib.hid (D0.out.sees s)
    replace hst := hst.sees s
    clear s q0 q1 q2 x0 x1 x2
    obtain ⟨q0, q1, q2⟩ := C0.out.cs
    obtain ⟨x0, x1, x2⟩ := D0.out.cs
    go_wp2_with fail
    refine (parses_at _ q I2 T2 er hZ.out _ hst hp.out).mono ?_
    rintro e W8 ⟨rfl, s⟩
    replace S0 := Lib.hid (S0.out.trans s)
    replace C0 := Lib.hid (C0.out.sees s)
    replace D0 := Lib.hid (D0.out.sees s)
    replace hst := hst.sees s
    clear s q0 q1 q2 x0 x1 x2
    obtain ⟨q0, q1, q2⟩ := C0.out.cs
    obtain ⟨x0, x1, x2⟩ := D0.out.cs
    go_wp2_with fail
    refine (known26 _ hst).mono ?_
    rintro e W9 ⟨rfl, s⟩
    replace S0 := Lib.hid (S0.out.trans s)
    replace C0 := Lib.hid (C0.out.sees s)
    replace D0 := Lib.hid (D0.out.sees s)
    replace hst := hst.sees s
    clear s q0 q1 q2 x0 x1 x2
    obtain ⟨q0, q1, q2⟩ := C0.out.cs
    obtain ⟨x0, x1, x2⟩ := D0.out.cs
    go_wp2
    go_ret
    exact ⟨rfl, S0.out⟩

set_option maxRecDepth 100000 in
theorem contract (H : Type) (enc : TypeId × Value → H) (W : World) (base : Nat) (args : Array Value) (ds gs : List (DataW H)) (before : List MemPlace)
    (hval : ∀ (j : Nat) t v, Tryd.f7.params[j]? = some t → args[j]? = some v → Value.okWide Tryd.prog W .any base t v)
    (hW : DataW.Whole enc Tryd.prog Tryd.f7.params.toList Rows.titleLinksSpec.vars false W args.toList ds gs before) (hL : laidMetH Tryd.prog Rows.titleLinksRow.laid W) (hsh : W.ShapedOpen Tryd.prog) :
    Calls Tryd.prog 7 args W fun e W' => ∃ v, e = .returned v ∧ Rows.titleLinksSpec.post enc Tryd.prog Tryd.f7 false true false false W args v W' := by
  have hW' := hW
  obtain ⟨p, q, hA0, hV, rfl, hfz, hnd⟩ := hW
  have hA : DataW.TrodAll enc Tryd.prog W 0 (fun _ => true) true Tryd.f7.params.toList args.toList ds p := hA0
  rw [Tryd.params7] at hA hval
  obtain ⟨v0, vs0, d0, ds0, p0, q0, hargs, rfl, rfl, h0, r0⟩ := trodAll_cons hA
  obtain ⟨v1, vs1, d1, ds1, p1, q1, rfl, rfl, rfl, h1, r1⟩ := trodAll_cons r0
  obtain ⟨v2, vs2, d2, ds2, p2, q2, rfl, rfl, rfl, h2, r2⟩ := trodAll_cons r1
  obtain ⟨rfl, rfl, rfl⟩ := trodAll_nil r2
  obtain rfl : args = #[v0, v1, v2] := by cases args; simp_all
  obtain ⟨x, rfl, rfl, rfl, wx⟩ := open_int Tryd.underlying38 (hval 0 38 v0 rfl rfl) h0
  obtain ⟨y, rfl, rfl, rfl, wy⟩ := open_int Tryd.underlying5 (hval 1 5 v1 rfl rfl) h1
  obtain ⟨b, rfl, rfl, rfl, wb⟩ := open_int Tryd.underlying5 (hval 2 5 v2 rfl rfl) h2
  have xx : 0 ≤ x ∧ x ≤ 65535 := by simpa [Lit.wf, IntKind.min, IntKind.max, IntKind.signed, IntKind.bits] using wx
  have xy : 0 ≤ y ∧ y ≤ 255 := by simpa [Lit.wf, IntKind.min, IntKind.max, IntKind.signed, IntKind.bits] using wy
  have xb : 0 ≤ b ∧ b ≤ 255 := by simpa [Lit.wf, IntKind.min, IntKind.max, IntKind.signed, IntKind.bits] using wb
  refine (walk x y b W (std_of_laid hL hsh) xx xy xb).mono fun e W' ⟨he, hs⟩ => ?_
  subst he
  exact ⟨_, rfl, law_post (tb := 4) laidOut (by
    rw [Tryd.params7]; intro t ht
    simp only [List.mem_cons, List.not_mem_nil, or_false] at ht
    rcases ht with rfl | rfl | rfl <;> exact ⟨by kernel_rfl, of_decide_eq_true (by kernel_rfl)⟩) hW' rfl (fun ds hl => by
    rw [Tryd.params7] at hl
    match ds, hl with
    | [_, _, _], _ => rfl) (by kernel_rfl) Tryd.underlying4 hs⟩

abbrev startArgs : Array Value := #[.int .u16 0, .int .u8 0, .int .u8 0]
noncomputable abbrev start (os : Os) : World := laidWorld os
theorem laid_met (os : Os) : laidMet Tryd.prog Rows.titleLinksRow.laid ((start os).forCall (fun _ _ => 0) ⟨#[], startArgs, []⟩).memory :=
  laidMet_of_run' 8 (by kernel_rfl) (by kernel_rfl)
theorem reads (os : Os) {H : Type} (enc : TypeId × Value → H) : ∃ x, DataW.whole enc Tryd.prog ((start os).forCall (fun _ _ => 0) ⟨#[], startArgs, []⟩).memory Tryd.f7.params.toList Rows.titleLinksSpec.vars false startArgs.toList 8 = some x :=
  ⟨([.lit (.int .u16 0), .lit (.int .u8 0), .lit (.int .u8 0)], [], []), by kernel_rfl⟩

set_option maxRecDepth 100000 in
theorem lifted (os : Os) (started : os.Started) (H : Type) (enc : TypeId × Value → H) (F : Stop.Interp) :
    ReturnsInHanded {} Tryd.checked os 7 .any ((OpenSpec.ofChange Rows.titleLinksSpec).preRow enc Tryd.prog Tryd.f7 Rows.titleLinksRow.domain false Rows.titleLinksRow.laid) (((OpenSpec.ofChange Rows.titleLinksSpec).at F).post enc Tryd.prog Tryd.f7 false true false false) := by
  obtain ⟨x, hx⟩ := reads os enc
  refine returnsInHanded_of_row (C := Tryd.checked) (s := OpenSpec.ofChange Rows.titleLinksSpec) ownK started (by kernel_rfl) Tryd.func7
    (witness_row_at (enc := enc) (C := Tryd.checked) false (start os) startArgs rfl (by kernel_rfl) (by kernel_rfl) (by kernel_rfl)
      (OpenSpec.preRow_of_cond 8 hx (by kernel_rfl) (fun k hk => by cases hk) (by kernel_rfl) (laid_met os))) ?_
  intro W base args ds gs before hval hW _ _ _ hL hsh _
  exact contract H enc W base args ds gs before hval hW hL hsh

theorem said : Rows.TitleLinksSaid :=
  OpenClaim.holds_of_cond 7 Tryd.f7 rfl rfl rfl rfl rfl rfl rfl ⟨rfl, rfl, rfl, rfl, rfl⟩ rfl rfl rfl rfl rfl (by kernel_rfl) Tryd.func7 (by kernel_rfl)
    (of_decide_eq_true (by kernel_rfl)) (by unfold Func.isWrapper; first | (rw [if_pos (by decide +kernel)]; kernel_rfl) | (rw [if_neg (by decide +kernel)]; exact ⟨rfl, rfl⟩))
    (fun os started H enc _ F => by rw [OpenClaim.pre_eq_preRow]; exact lifted os started H enc F)

theorem plain (f : FuncId) (fn : Func) (hf : Tryd.pinned.checked.prog.funcNamed Rows.titleLinksRow.func = some f) (hfn : Tryd.pinned.checked.prog.funcs[f]? = some fn) :
    true = Tryd.pinned.checked.prog.looks [] ∧ ∀ (j : Nat) t, fn.params[j]? = some t → Tryd.pinned.checked.prog.wantsStandIn t = false := by
  obtain rfl : f = 7 := Option.some.inj ((show Tryd.prog.funcNamed Rows.titleLinksRow.func = some 7 by kernel_rfl).symm.trans hf) |>.symm
  obtain rfl : fn = Tryd.f7 := (Option.some.inj (Tryd.func7.symm.trans hfn)).symm
  refine ⟨by kernel_rfl, fun j t ht => ?_⟩
  rw [Tryd.params7] at ht
  have hm := Array.mem_of_getElem? ht
  simp only [List.mem_toArray, List.mem_cons, List.not_mem_nil, or_false] at hm
  rcases hm with rfl | rfl | rfl
  · exact (show Tryd.prog.wantsStandIn 38 = false by kernel_rfl)
  · exact (show Tryd.prog.wantsStandIn 5 = false by kernel_rfl)
  · exact (show Tryd.prog.wantsStandIn 5 = false by kernel_rfl)

theorem card : Rows.TitleLinksCardSaid :=
  Claim7.holds_tied_plain_at .later [] _ _ _ _ said (fun _ h => by cases h) (by kernel_rfl) (fun _ h => by cases h) titleLinks_row_tie rfl ⟨rfl, rfl⟩ (by kernel_rfl) rfl plain (by kernel_rfl)
end titleLinks
end Go.Proofs.YtmmofcfhenjffaaDoor
