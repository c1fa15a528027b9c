/- decimal (the reference's and the law's), and the reference's Text (23). No condition. -/
import Derived.Test.YtfgifjdholdohaaDoorSaT
import Derived.IntWalk
namespace Go.Proofs.YtfgifjdholdohaaDoor
set_option linter.unusedVariables false
set_option linter.unusedSimpArgs false
open Go.RowKit

theorem dig_toNat {k : Nat} (h : k < 10) : (UInt8.ofNat (48 + k)).toNat = 48 + k := (dig_of h).2
theorem conv_digit (W : World) (b d : Nat) (x : UInt8) (hx : x.toNat = 48 + d) (hc : W.cell? ⟨b, 0, none⟩ = some (.int .u8 (48 + d))) :
    (convert 83 9 (.slice (some ⟨b, 0, none⟩) 1 1)).run Tryd.prog W = .ok (.string ⟨#[x]⟩) W := by
  have := run_convert_bytes_back (P := Tryd.prog) W 83 9 5 ⟨b, 0, none⟩ 1 [x] Tryd.underlying83 Tryd.underlying5 Tryd.underlying9 (fun j hj => by
    obtain rfl : j = 0 := by simpa using hj
    rw [show (⟨b, 0, none⟩ : Addr).add 0 = ⟨b, 0, none⟩ from rfl, hc]
    simp only [List.getElem_cons_zero]
    rw [hx]
    rfl)
  exact this
set_option maxRecDepth 100000 in
set_option maxHeartbeats 2000000 in
theorem rdec_small (u : Nat) (h : u < 10) (w : World) :
    Calls Tryd.prog 33 #[.int .u64 u] w fun e w' => e = .returned (.string ⟨(Lib.decDigits u).toArray⟩) ∧ Sees w w' := by
  have hw := Sees.refl w
  have t1 : decide ((u : Int) < 10) = true := decide_eq_true (by omega)
  have hw1 : IntKind.u64.wrap (48 + (u : Int)) = 48 + (u : Int) := IntWalk.u64_in _ (by omega)
  have hw2 : IntKind.u8.wrap (48 + (u : Int)) = 48 + (u : Int) := IntWalk.u8_in _ (by omega)
  rw [show Lib.decDigits u = [UInt8.ofNat (48 + u)] by rw [Lib.decDigits, dif_pos h]]
  have hx := dig_toNat h
  generalize UInt8.ofNat (48 + u) = x at hx ⊢
  have hcv := conv_digit (w.alloc (.cells #[.int .u8 (48 + (u : Int))] 5)) w.heap.size u x hx (by simp)
  clear hx
  go_enter Tryd.func33, Tryd.ntmps33
  go_wp2
  go_ret
  exact ⟨rfl, hw.alloc _⟩
set_option maxRecDepth 100000 in
set_option maxHeartbeats 4000000 in
theorem rdec_step (u : Nat) (h : ¬ u < 10) (hu : u < 18446744073709551616) (ih : ∀ w : World, Calls Tryd.prog 33 #[.int .u64 ((u / 10 : Nat) : Int)] w fun e w' => e = .returned (.string ⟨(Lib.decDigits (u / 10)).toArray⟩) ∧ Sees w w') (w : World) :
    Calls Tryd.prog 33 #[.int .u64 u] w fun e w' => e = .returned (.string ⟨(Lib.decDigits u).toArray⟩) ∧ Sees w w' := by
  have hw := Sees.refl w
  have t1 : decide ((u : Int) < 10) = false := decide_eq_false (by omega)
  have hD : Lib.decDigits u = Lib.decDigits (u / 10) ++ [UInt8.ofNat (48 + u % 10)] := by rw [Lib.decDigits, dif_neg h]
  have hlen : (Lib.decDigits (u / 10)).length ≤ 20 := dec_len (by omega)
  have hlen2 : (Lib.decDigits (u / 10)).length + 1 ≤ 9223372036854775807 := by omega
  have hlen3 : (Lib.decDigits (u / 10)).length ≤ 9223372036854775806 := by omega
  have hq : IntKind.u64.wrap ((u : Int) / 10) = ((u / 10 : Nat) : Int) := by rw [IntWalk.u64_in _ (by omega)]; omega
  have hq2 : (u : Int) / 10 = ((u / 10 : Nat) : Int) := by omega
  have hqv : IntKind.u64.wrap ((u / 10 : Nat) : Int) = ((u / 10 : Nat) : Int) := IntWalk.u64_in _ (by omega)
  have hq3 : (u : Int).tdiv 10 = ((u / 10 : Nat) : Int) := by rw [Int.tdiv_eq_ediv_of_nonneg (by omega)]; omega
  have hr : (u : Int) % 10 = ((u % 10 : Nat) : Int) := by omega
  have hr2 : (u : Int).tmod 10 = ((u % 10 : Nat) : Int) := by rw [IntWalk.rem_in (u : Int) 10 (by omega)]; exact hr
  have hw1 : IntKind.u64.wrap ((u % 10 : Nat) : Int) = ((u % 10 : Nat) : Int) := IntWalk.u64_in _ (by omega)
  have hw2 : IntKind.u64.wrap (48 + ((u % 10 : Nat) : Int)) = 48 + ((u % 10 : Nat) : Int) := IntWalk.u64_in _ (by omega)
  have hw3 : IntKind.u8.wrap (48 + ((u % 10 : Nat) : Int)) = 48 + ((u % 10 : Nat) : Int) := IntWalk.u8_in _ (by omega)
  have hd : u % 10 < 10 := Nat.mod_lt _ (by decide)
  have hx := dig_toNat hd
  generalize UInt8.ofNat (48 + u % 10) = x at hx hD
  generalize u / 10 = v at *
  generalize u % 10 = d at *
  rw [hD]
  have hS : (⟨(Lib.decDigits v).toArray⟩ : ByteArray) ++ ⟨#[x]⟩ = ⟨(Lib.decDigits v ++ [x]).toArray⟩ := by
    apply ByteArray.ext
    simp
  obtain ⟨S, hS'⟩ : ∃ S : ByteArray, S = ⟨(Lib.decDigits v ++ [x]).toArray⟩ := ⟨_, rfl⟩
  rw [← hS'] at hS ⊢
  clear hS' hD
  go_enter Tryd.func33, Tryd.ntmps33
  go_wp2_with fail
  refine wpFrom_go (by kernel_rfl) (by kernel_rfl) (fun hB w2 hw2' => ?_)
  have hst : segStay (Sees w2) [.is (.int .u64 u), .is (.int .u64 v), .is (.string ⟨(Lib.decDigits v).toArray⟩), .is (.int .u64 u), .is (.int .u64 d), .is (.int .u64 (48 + (d : Int))), .is (.int .u8 (48 + (d : Int))),
      .so (fun x W => ∃ b, x = .slice (some ⟨b, 0, none⟩) 1 1 ∧ W.heap[b]? = some (.cells #[.int .u8 (48 + (d : Int))] 5 (0, 0))), .is (.string ⟨#[x]⟩), .is (.string S)] :=
    ⟨fun x W W' _ ⟨b, h1, h2⟩ hs => ⟨b, h1, by rw [hs.block _ (Array.getElem?_eq_some_iff.1 h2).1]; exact h2⟩, trivial⟩
  have hval : ∀ x v, (Spec.is x).val v = x := fun _ _ => rfl
  have hval2 : ∀ V v, (Spec.so V).val v = v := fun _ _ => rfl
  refine wpFrom_any 10 _ hB (by kernel_rfl) rfl hst (by simp only [List.cons_append, List.nil_append, List.drop_succ_cons, List.drop_zero, List.take_succ_cons, List.take_zero, Nat.reduceSub]; rfl) ?_
  refine ⟨fun vs W hI hV => .inl ⟨by go_simp, .inl (by go_simp)⟩, ?_⟩
  refine ⟨fun vs W hI hV => .inl ⟨by go_simp, .inl (by go_simp)⟩, ?_⟩
  refine ⟨fun vs W hI hV => .inl ⟨by clear hV; go_simp, .inr (.inr ⟨33, #[.int .u64 (v : Int)], by clear hI hV; go_simp, ih W⟩)⟩, ?_⟩
  refine ⟨fun vs W hI hV => .inl ⟨by go_simp, .inl (by go_simp)⟩, ?_⟩
  refine ⟨fun vs W hI hV => .inl ⟨by go_simp, .inl (by go_simp)⟩, ?_⟩
  refine ⟨fun vs W hI hV => .inl ⟨by go_simp, .inl (by go_simp)⟩, ?_⟩
  refine ⟨fun vs W hI hV => .inl ⟨by go_simp, .inl (by go_simp)⟩, ?_⟩
  refine ⟨fun vs W hI hV => .inl ⟨by clear hV; go_simp, .inl ⟨.slice (some ⟨W.heap.size, 0, none⟩) 1 1, W.alloc (.cells #[.int .u8 (48 + (d : Int))] 5), by clear hI hV; go_simp, rgGood_mk hst hI ⟨_, rfl, heap_alloc_new _ _⟩ ((Sees.refl W).alloc _)⟩⟩, ?_⟩
  refine ⟨fun vs W hI hV => .inl ⟨by clear hV; go_simp, .inl (by
    obtain ⟨b, e1, e2⟩ := hV 7 _ (by kernel_rfl) rfl
    have hcv := conv_digit W b d x hx (by rw [cell_of_row _ _ _ _ _ _ e2]; rfl)
    clear hI hV e2 hx hst
    first | (go_simp; done) | (go_simp; rw [e1]; done) | (go_simp; rw [e1]; go_simp))⟩, ?_⟩
  refine ⟨fun vs W hI hV => .inl ⟨by clear hV; go_simp, .inl (by clear hI hV hx hst; go_simp)⟩, ?_⟩
  intro vs w3 hI hV
  have hS3 := hw2'.trans hI
  clear hI hV hst hx
  go_simp
  refine wpFrom_to 11 hB (fun _ _ _ _ _ h => h) (by kernel_rfl) (by simp only [List.cons_append, List.nil_append, List.drop_succ_cons, List.drop_zero, List.take_succ_cons, List.take_zero, Nat.reduceSub]; rfl) ?_
  go_wp2
  refine wpFrom_end rfl ?_; go_wp2
  go_ret
  exact ⟨rfl, hS3⟩
theorem rdec_any (u : Nat) (hu : u < 18446744073709551616) (w : World) :
    Calls Tryd.prog 33 #[.int .u64 u] w fun e w' => e = .returned (.string ⟨(Lib.decDigits u).toArray⟩) ∧ Sees w w' := by
  induction u using Nat.strongRecOn generalizing w with
  | _ u ih =>
    by_cases h : u < 10
    · exact rdec_small u h w
    · exact rdec_step u h hu (fun w => ih (u / 10) (by omega) (by omega) w) w
set_option maxRecDepth 100000 in
set_option maxHeartbeats 2000000 in
theorem ldec_small (u : Nat) (h : u < 10) (w : World) :
    Calls Tryd.prog 21 #[.int .u64 u] w fun e w' => e = .returned (.string ⟨(Lib.decDigits u).toArray⟩) ∧ Sees w w' := by
  have hw := Sees.refl w
  have t1 : decide ((u : Int) < 10) = true := decide_eq_true (by omega)
  have hw1 : IntKind.u64.wrap (48 + (u : Int)) = 48 + (u : Int) := IntWalk.u64_in _ (by omega)
  have hw2 : IntKind.u8.wrap (48 + (u : Int)) = 48 + (u : Int) := IntWalk.u8_in _ (by omega)
  rw [show Lib.decDigits u = [UInt8.ofNat (48 + u)] by rw [Lib.decDigits, dif_pos h]]
  have hx := dig_toNat h
  generalize UInt8.ofNat (48 + u) = x at hx ⊢
  have hcv := conv_digit (w.alloc (.cells #[.int .u8 (48 + (u : Int))] 5)) w.heap.size u x hx (by simp)
  clear hx
  go_enter Tryd.func21, Tryd.ntmps21
  go_wp2
  go_ret
  exact ⟨rfl, hw.alloc _⟩
set_option maxRecDepth 100000 in
set_option maxHeartbeats 4000000 in
theorem ldec_step (u : Nat) (h : ¬ u < 10) (hu : u < 18446744073709551616) (ih : ∀ w : World, Calls Tryd.prog 21 #[.int .u64 ((u / 10 : Nat) : Int)] w fun e w' => e = .returned (.string ⟨(Lib.decDigits (u / 10)).toArray⟩) ∧ Sees w w') (w : World) :
    Calls Tryd.prog 21 #[.int .u64 u] w fun e w' => e = .returned (.string ⟨(Lib.decDigits u).toArray⟩) ∧ Sees w w' := by
  have hw := Sees.refl w
  have t1 : decide ((u : Int) < 10) = false := decide_eq_false (by omega)
  have hD : Lib.decDigits u = Lib.decDigits (u / 10) ++ [UInt8.ofNat (48 + u % 10)] := by rw [Lib.decDigits, dif_neg h]
  have hlen : (Lib.decDigits (u / 10)).length ≤ 20 := dec_len (by omega)
  have hlen2 : (Lib.decDigits (u / 10)).length + 1 ≤ 9223372036854775807 := by omega
  have hlen3 : (Lib.decDigits (u / 10)).length ≤ 9223372036854775806 := by omega
  have hq : IntKind.u64.wrap ((u : Int) / 10) = ((u / 10 : Nat) : Int) := by rw [IntWalk.u64_in _ (by omega)]; omega
  have hq2 : (u : Int) / 10 = ((u / 10 : Nat) : Int) := by omega
  have hqv : IntKind.u64.wrap ((u / 10 : Nat) : Int) = ((u / 10 : Nat) : Int) := IntWalk.u64_in _ (by omega)
  have hq3 : (u : Int).tdiv 10 = ((u / 10 : Nat) : Int) := by rw [Int.tdiv_eq_ediv_of_nonneg (by omega)]; omega
  have hr : (u : Int) % 10 = ((u % 10 : Nat) : Int) := by omega
  have hr2 : (u : Int).tmod 10 = ((u % 10 : Nat) : Int) := by rw [IntWalk.rem_in (u : Int) 10 (by omega)]; exact hr
  have hw1 : IntKind.u64.wrap ((u % 10 : Nat) : Int) = ((u % 10 : Nat) : Int) := IntWalk.u64_in _ (by omega)
  have hw2 : IntKind.u64.wrap (48 + ((u % 10 : Nat) : Int)) = 48 + ((u % 10 : Nat) : Int) := IntWalk.u64_in _ (by omega)
  have hw3 : IntKind.u8.wrap (48 + ((u % 10 : Nat) : Int)) = 48 + ((u % 10 : Nat) : Int) := IntWalk.u8_in _ (by omega)
  have hd : u % 10 < 10 := Nat.mod_lt _ (by decide)
  have hx := dig_toNat hd
  generalize UInt8.ofNat (48 + u % 10) = x at hx hD
  generalize u / 10 = v at *
  generalize u % 10 = d at *
  rw [hD]
  have hS : (⟨(Lib.decDigits v).toArray⟩ : ByteArray) ++ ⟨#[x]⟩ = ⟨(Lib.decDigits v ++ [x]).toArray⟩ := by
    apply ByteArray.ext
    simp
  obtain ⟨S, hS'⟩ : ∃ S : ByteArray, S = ⟨(Lib.decDigits v ++ [x]).toArray⟩ := ⟨_, rfl⟩
  rw [← hS'] at hS ⊢
  clear hS' hD
  go_enter Tryd.func21, Tryd.ntmps21
  go_wp2_with fail
  refine wpFrom_go (by kernel_rfl) (by kernel_rfl) (fun hB w2 hw2' => ?_)
  have hst : segStay (Sees w2) [.is (.int .u64 u), .is (.int .u64 v), .is (.string ⟨(Lib.decDigits v).toArray⟩), .is (.int .u64 u), .is (.int .u64 d), .is (.int .u64 (48 + (d : Int))), .is (.int .u8 (48 + (d : Int))),
      .so (fun x W => ∃ b, x = .slice (some ⟨b, 0, none⟩) 1 1 ∧ W.heap[b]? = some (.cells #[.int .u8 (48 + (d : Int))] 5 (0, 0))), .is (.string ⟨#[x]⟩), .is (.string S)] :=
    ⟨fun x W W' _ ⟨b, h1, h2⟩ hs => ⟨b, h1, by rw [hs.block _ (Array.getElem?_eq_some_iff.1 h2).1]; exact h2⟩, trivial⟩
  have hval : ∀ x v, (Spec.is x).val v = x := fun _ _ => rfl
  have hval2 : ∀ V v, (Spec.so V).val v = v := fun _ _ => rfl
  refine wpFrom_any 10 _ hB (by kernel_rfl) rfl hst (by simp only [List.cons_append, List.nil_append, List.drop_succ_cons, List.drop_zero, List.take_succ_cons, List.take_zero, Nat.reduceSub]; rfl) ?_
  refine ⟨fun vs W hI hV => .inl ⟨by go_simp, .inl (by go_simp)⟩, ?_⟩
  refine ⟨fun vs W hI hV => .inl ⟨by go_simp, .inl (by go_simp)⟩, ?_⟩
  refine ⟨fun vs W hI hV => .inl ⟨by clear hV; go_simp, .inr (.inr ⟨21, #[.int .u64 (v : Int)], by clear hI hV; go_simp, ih W⟩)⟩, ?_⟩
  refine ⟨fun vs W hI hV => .inl ⟨by go_simp, .inl (by go_simp)⟩, ?_⟩
  refine ⟨fun vs W hI hV => .inl ⟨by go_simp, .inl (by go_simp)⟩, ?_⟩
  refine ⟨fun vs W hI hV => .inl ⟨by go_simp, .inl (by go_simp)⟩, ?_⟩
  refine ⟨fun vs W hI hV => .inl ⟨by go_simp, .inl (by go_simp)⟩, ?_⟩
  refine ⟨fun vs W hI hV => .inl ⟨by clear hV; go_simp, .inl ⟨.slice (some ⟨W.heap.size, 0, none⟩) 1 1, W.alloc (.cells #[.int .u8 (48 + (d : Int))] 5), by clear hI hV; go_simp, rgGood_mk hst hI ⟨_, rfl, heap_alloc_new _ _⟩ ((Sees.refl W).alloc _)⟩⟩, ?_⟩
  refine ⟨fun vs W hI hV => .inl ⟨by clear hV; go_simp, .inl (by
    obtain ⟨b, e1, e2⟩ := hV 7 _ (by kernel_rfl) rfl
    have hcv := conv_digit W b d x hx (by rw [cell_of_row _ _ _ _ _ _ e2]; rfl)
    clear hI hV e2 hx hst
    first | (go_simp; done) | (go_simp; rw [e1]; done) | (go_simp; rw [e1]; go_simp))⟩, ?_⟩
  refine ⟨fun vs W hI hV => .inl ⟨by clear hV; go_simp, .inl (by clear hI hV hx hst; go_simp)⟩, ?_⟩
  intro vs w3 hI hV
  have hS3 := hw2'.trans hI
  clear hI hV hst hx
  go_simp
  refine wpFrom_to 11 hB (fun _ _ _ _ _ h => h) (by kernel_rfl) (by simp only [List.cons_append, List.nil_append, List.drop_succ_cons, List.drop_zero, List.take_succ_cons, List.take_zero, Nat.reduceSub]; rfl) ?_
  go_wp2
  refine wpFrom_end rfl ?_; go_wp2
  go_ret
  exact ⟨rfl, hS3⟩
theorem ldec_any (u : Nat) (hu : u < 18446744073709551616) (w : World) :
    Calls Tryd.prog 21 #[.int .u64 u] w fun e w' => e = .returned (.string ⟨(Lib.decDigits u).toArray⟩) ∧ Sees w w' := by
  induction u using Nat.strongRecOn generalizing w with
  | _ u ih =>
    by_cases h : u < 10
    · exact ldec_small u h w
    · exact ldec_step u h hu (fun w => ih (u / 10) (by omega) (by omega) w) w
theorem joinS_snoc : ∀ (l : List (List UInt8)) (y : List UInt8), l ≠ [] → joinS (l ++ [y]) = joinS l ++ 32 :: y
  | [], _, h => absurd rfl h
  | [x], y, _ => by simp [joinS]
  | x :: z :: r, y, _ => by
    have := joinS_snoc (z :: r) y (by simp)
    simp only [List.cons_append, joinS] at this ⊢
    rw [this]
    simp
theorem textN_snoc (l : List Nat) (y : Nat) (h : l ≠ []) : textN (l ++ [y]) = textN l ++ 32 :: Lib.decDigits y := by
  unfold textN
  rw [List.map_append]
  exact joinS_snoc _ _ (by simpa using h)
theorem ba_app (a b c : List UInt8) (h : a ++ b = c) : (⟨a.toArray⟩ : ByteArray) ++ ⟨b.toArray⟩ = ⟨c.toArray⟩ := by
  subst h
  apply ByteArray.ext
  simp
set_option maxHeartbeats 16000000 in
set_option maxRecDepth 100000 in
theorem rtext0 (s : Sv) (hv : s.ok = true) (n0 n1 n2 n3 n4 n5 n6 n7 : Nat) (e0 : s.row = n0) (e1 : s.col = n1) (e2 : n2 = bitN s.pend) (w3 : n3 < 18446744073709551616) (e4 : n4 = bitN s.org) (e5 : s.g0 = n5) (e6 : s.g1 = n6) (e7 : s.act = n7) (L : List Nat) (hL : L = [n0, n1, n2, n3, n4, n5, n6, n7]) (w : World) : Calls Tryd.prog 17 #[s.val, .int .u64 (n3 : Int)] w fun e w' => e = .returned (.string ⟨(textN L).toArray⟩) ∧ Sees w w' := by
  have B2 : Hid (∀ W, Calls Tryd.prog 32 #[.bool s.pend] W fun e w' => e = .returned (.int .u64 (n2 : Int)) ∧ w' = W) := fun W => e2 ▸ rbit_any s.pend W
  have B4 : Hid (∀ W, Calls Tryd.prog 32 #[.bool s.org] W fun e w' => e = .returned (.int .u64 (n4 : Int)) ∧ w' = W) := fun W => e4 ▸ rbit_any s.org W
  obtain ⟨⟨q0, q1, q2, q3⟩, ⟨q4, q5⟩, ⟨q6, q7⟩, q8, q9⟩ := cs_small hv
  have w2 : n2 ≤ 1 := by rw [e2]; unfold bitN; split <;> omega
  have k4 : n4 ≤ 1 := by rw [e4]; unfold bitN; split <;> omega
  rw [e0] at q0 q1
  rw [e1] at q2 q3
  rw [e5] at q4 q5
  rw [e6] at q6 q7
  rw [e7] at q8 q9
  have v0 : IntKind.u64.wrap (n0 : Int) = n0 := wrap64 (by omega)
  have v1 : IntKind.u64.wrap (n1 : Int) = n1 := wrap64 (by omega)
  have v5 : IntKind.u64.wrap (n5 : Int) = n5 := wrap64 (by omega)
  have v6 : IntKind.u64.wrap (n6 : Int) = n6 := wrap64 (by omega)
  have v7 : IntKind.u64.wrap (n7 : Int) = n7 := wrap64 (by omega)
  have A0 := SvAt.new w s
  have S0 := (Sees.refl w).alloc (.cells s.cells 35)
  clear hv e2 e4
  have E0 := Lib.hid e0
  have E1 := Lib.hid e1
  have E5 := Lib.hid e5
  have E6 := Lib.hid e6
  have E7 := Lib.hid e7
  have HLL := Lib.hid hL
  clear e0 e1 e5 e6 e7 hL
  have hval : ∀ x v, (Spec.is x).val v = x := fun _ _ => rfl
  have hval2 : ∀ V v, (Spec.so V).val v = v := fun _ _ => rfl
  go_enter Tryd.func17, Tryd.ntmps17
  go_upto_region 1 with (first
    | (refine wpList_val rfl (exec_box (cs := s.cells) rfl rfl) (fun K hK => ?_); go_simp; refine hK _ _ ?_; clear hK K))
  refine wp_world fun W2 hW2 => ?_
  have A2 : RowKit.Hid (SvAt W2 w.heap.size s) := hW2 ▸ A0
  have S2 : RowKit.Hid (Sees w W2) := hW2 ▸ S0
  clear hW2 A0 S0
  (try go_wp2_with fail)
  have A3 := A2
  have S3 := S2
  clear A2 S2
  have hst : segStay (Sees W2) [.is (.pointer (some ⟨w.heap.size, 0, none⟩)), .is (.pointer (some ⟨w.heap.size, 0, none⟩)), .is (.int .i64 (n0 : Int)), .is (.int .u64 (n0 : Int)), .is (.pointer (some ⟨w.heap.size, 0, none⟩)), .is (.pointer (some ⟨w.heap.size, 1, none⟩)), .is (.int .i64 (n1 : Int)), .is (.int .u64 (n1 : Int)), .is (.pointer (some ⟨w.heap.size, 0, none⟩)), .is (.pointer (some ⟨w.heap.size, 2, none⟩)), .is (.bool s.pend), .is (.int .u64 (n2 : Int)), .is (.int .u64 (n3 : Int)), .is (.pointer (some ⟨w.heap.size, 14, none⟩)), .is (.bool s.org), .is (.int .u64 (n4 : Int)), .is (.pointer (some ⟨w.heap.size, 15, none⟩)), .is (.pointer (some ⟨w.heap.size, 15, none⟩)), .is (.pointer (some ⟨w.heap.size, 15, none⟩)), .is (.int .i64 (n5 : Int)), .is (.int .u64 (n5 : Int)), .is (.pointer (some ⟨w.heap.size, 15, none⟩)), .is (.pointer (some ⟨w.heap.size, 15, none⟩)), .is (.pointer (some ⟨w.heap.size, 16, none⟩)), .is (.int .i64 (n6 : Int)), .is (.int .u64 (n6 : Int)), .is (.pointer (some ⟨w.heap.size, 15, none⟩)), .is (.pointer (some ⟨w.heap.size, 17, none⟩)), .is (.int .i64 (n7 : Int)), .is (.int .u64 (n7 : Int)), .so (fun v W => ∃ b, v = .slice (some ⟨b, 0, none⟩) 8 8 ∧ W.heap[b]? = some (.cells #[.int .u64 n0, .int .u64 n1, .int .u64 n2, .int .u64 n3, .int .u64 n4, .int .u64 n5, .int .u64 n6, .int .u64 n7] 49 (0, 0))), .so (fun v W => ∃ b, v = .slice (some ⟨b, 0, none⟩) 8 8 ∧ W.heap[b]? = some (.cells #[.int .u64 n0, .int .u64 n1, .int .u64 n2, .int .u64 n3, .int .u64 n4, .int .u64 n5, .int .u64 n6, .int .u64 n7] 49 (0, 0)))] := ⟨fun u W W' _ ⟨b, h1, h2⟩ hs => ⟨b, h1, hs.block' h2⟩, fun u W W' _ ⟨b, h1, h2⟩ hs => ⟨b, h1, hs.block' h2⟩, trivial⟩
  refine wp_region_rg _ (Sees W2) (by kernel_rfl) (by kernel_rfl) (Sees.refl _).drew (fun _ _ h k => h.trans k) (segStay_get _ hst) ?_
  refine ⟨fun vs W hI hV => .inl ⟨by clear hI hV hst; go_simp, .inl (by clear hI hV hst; (try simp only [Act.put, hval, hval2, List.setIfInBounds_toArray, List.set_cons_zero, List.set_cons_succ]); go_simp)⟩, ?_⟩
  refine ⟨fun vs W hI hV => .inl ⟨by clear hI hV hst; go_simp, .inl (by clear hI hV hst; (try simp only [Act.put, hval, hval2, List.setIfInBounds_toArray, List.set_cons_zero, List.set_cons_succ]); go_simp)⟩, ?_⟩
  refine ⟨fun vs W hI hV => .inl ⟨by clear hI hV hst; go_simp, .inl (by have q := (A3.out.sees hI).cs.1; rw [E0.out] at q; clear hI hV hst; (try simp only [Act.put, hval, hval2, List.setIfInBounds_toArray, List.set_cons_zero, List.set_cons_succ]); go_simp)⟩, ?_⟩
  refine ⟨fun vs W hI hV => .inl ⟨by clear hI hV hst; go_simp, .inl (by clear hI hV hst; (try simp only [Act.put, hval, hval2, List.setIfInBounds_toArray, List.set_cons_zero, List.set_cons_succ]); go_simp)⟩, ?_⟩
  refine ⟨fun vs W hI hV => .inl ⟨by clear hI hV hst; go_simp, .inl (by clear hI hV hst; (try simp only [Act.put, hval, hval2, List.setIfInBounds_toArray, List.set_cons_zero, List.set_cons_succ]); go_simp)⟩, ?_⟩
  refine ⟨fun vs W hI hV => .inl ⟨by clear hI hV hst; go_simp, .inl (by clear hI hV hst; (try simp only [Act.put, hval, hval2, List.setIfInBounds_toArray, List.set_cons_zero, List.set_cons_succ]); go_simp)⟩, ?_⟩
  refine ⟨fun vs W hI hV => .inl ⟨by clear hI hV hst; go_simp, .inl (by have q := (A3.out.sees hI).cs.2.1; rw [E1.out] at q; clear hI hV hst; (try simp only [Act.put, hval, hval2, List.setIfInBounds_toArray, List.set_cons_zero, List.set_cons_succ]); go_simp)⟩, ?_⟩
  refine ⟨fun vs W hI hV => .inl ⟨by clear hI hV hst; go_simp, .inl (by clear hI hV hst; (try simp only [Act.put, hval, hval2, List.setIfInBounds_toArray, List.set_cons_zero, List.set_cons_succ]); go_simp)⟩, ?_⟩
  refine ⟨fun vs W hI hV => .inl ⟨by clear hI hV hst; go_simp, .inl (by clear hI hV hst; (try simp only [Act.put, hval, hval2, List.setIfInBounds_toArray, List.set_cons_zero, List.set_cons_succ]); go_simp)⟩, ?_⟩
  refine ⟨fun vs W hI hV => .inl ⟨by clear hI hV hst; go_simp, .inl (by clear hI hV hst; (try simp only [Act.put, hval, hval2, List.setIfInBounds_toArray, List.set_cons_zero, List.set_cons_succ]); go_simp)⟩, ?_⟩
  refine ⟨fun vs W hI hV => .inl ⟨by clear hI hV hst; go_simp, .inl (by have q := (A3.out.sees hI).cs.2.2.1; skip; clear hI hV hst; (try simp only [Act.put, hval, hval2, List.setIfInBounds_toArray, List.set_cons_zero, List.set_cons_succ]); go_simp)⟩, ?_⟩
  refine ⟨fun vs W hI hV => .inl ⟨by clear hI hV hst; (try simp only [Act.put, hval, hval2, List.setIfInBounds_toArray, List.set_cons_zero, List.set_cons_succ]); go_simp, .inr (.inr ⟨32, #[.bool s.pend], by clear hI hV hst; (try simp only [Act.put, hval, hval2, List.setIfInBounds_toArray, List.set_cons_zero, List.set_cons_succ]); go_simp, ((B2.out W).mono fun e W' ⟨he, hw⟩ => ⟨he, hw ▸ Sees.refl W⟩)⟩)⟩, ?_⟩
  refine ⟨fun vs W hI hV => .inl ⟨by clear hI hV hst; go_simp, .inl (by clear hI hV hst; (try simp only [Act.put, hval, hval2, List.setIfInBounds_toArray, List.set_cons_zero, List.set_cons_succ]); go_simp)⟩, ?_⟩
  refine ⟨fun vs W hI hV => .inl ⟨by clear hI hV hst; go_simp, .inl (by clear hI hV hst; (try simp only [Act.put, hval, hval2, List.setIfInBounds_toArray, List.set_cons_zero, List.set_cons_succ]); go_simp)⟩, ?_⟩
  refine ⟨fun vs W hI hV => .inl ⟨by clear hI hV hst; go_simp, .inl (by have q := (A3.out.sees hI).cs.2.2.2.2.2.2.2.2.2.2.2.2.2.2.1; skip; clear hI hV hst; (try simp only [Act.put, hval, hval2, List.setIfInBounds_toArray, List.set_cons_zero, List.set_cons_succ]); go_simp)⟩, ?_⟩
  refine ⟨fun vs W hI hV => .inl ⟨by clear hI hV hst; (try simp only [Act.put, hval, hval2, List.setIfInBounds_toArray, List.set_cons_zero, List.set_cons_succ]); go_simp, .inr (.inr ⟨32, #[.bool s.org], by clear hI hV hst; (try simp only [Act.put, hval, hval2, List.setIfInBounds_toArray, List.set_cons_zero, List.set_cons_succ]); go_simp, ((B4.out W).mono fun e W' ⟨he, hw⟩ => ⟨he, hw ▸ Sees.refl W⟩)⟩)⟩, ?_⟩
  refine ⟨fun vs W hI hV => .inl ⟨by clear hI hV hst; go_simp, .inl (by clear hI hV hst; (try simp only [Act.put, hval, hval2, List.setIfInBounds_toArray, List.set_cons_zero, List.set_cons_succ]); go_simp)⟩, ?_⟩
  refine ⟨fun vs W hI hV => .inl ⟨by clear hI hV hst; go_simp, .inl (by clear hI hV hst; (try simp only [Act.put, hval, hval2, List.setIfInBounds_toArray, List.set_cons_zero, List.set_cons_succ]); go_simp)⟩, ?_⟩
  refine ⟨fun vs W hI hV => .inl ⟨by clear hI hV hst; go_simp, .inl (by clear hI hV hst; (try simp only [Act.put, hval, hval2, List.setIfInBounds_toArray, List.set_cons_zero, List.set_cons_succ]); go_simp)⟩, ?_⟩
  refine ⟨fun vs W hI hV => .inl ⟨by clear hI hV hst; go_simp, .inl (by have q := (A3.out.sees hI).cs.2.2.2.2.2.2.2.2.2.2.2.2.2.2.2.1; rw [E5.out] at q; clear hI hV hst; (try simp only [Act.put, hval, hval2, List.setIfInBounds_toArray, List.set_cons_zero, List.set_cons_succ]); go_simp)⟩, ?_⟩
  refine ⟨fun vs W hI hV => .inl ⟨by clear hI hV hst; go_simp, .inl (by clear hI hV hst; (try simp only [Act.put, hval, hval2, List.setIfInBounds_toArray, List.set_cons_zero, List.set_cons_succ]); go_simp)⟩, ?_⟩
  refine ⟨fun vs W hI hV => .inl ⟨by clear hI hV hst; go_simp, .inl (by clear hI hV hst; (try simp only [Act.put, hval, hval2, List.setIfInBounds_toArray, List.set_cons_zero, List.set_cons_succ]); go_simp)⟩, ?_⟩
  refine ⟨fun vs W hI hV => .inl ⟨by clear hI hV hst; go_simp, .inl (by clear hI hV hst; (try simp only [Act.put, hval, hval2, List.setIfInBounds_toArray, List.set_cons_zero, List.set_cons_succ]); go_simp)⟩, ?_⟩
  refine ⟨fun vs W hI hV => .inl ⟨by clear hI hV hst; go_simp, .inl (by clear hI hV hst; (try simp only [Act.put, hval, hval2, List.setIfInBounds_toArray, List.set_cons_zero, List.set_cons_succ]); go_simp)⟩, ?_⟩
  refine ⟨fun vs W hI hV => .inl ⟨by clear hI hV hst; go_simp, .inl (by have q := (A3.out.sees hI).cs.2.2.2.2.2.2.2.2.2.2.2.2.2.2.2.2.1; rw [E6.out] at q; clear hI hV hst; (try simp only [Act.put, hval, hval2, List.setIfInBounds_toArray, List.set_cons_zero, List.set_cons_succ]); go_simp)⟩, ?_⟩
  refine ⟨fun vs W hI hV => .inl ⟨by clear hI hV hst; go_simp, .inl (by clear hI hV hst; (try simp only [Act.put, hval, hval2, List.setIfInBounds_toArray, List.set_cons_zero, List.set_cons_succ]); go_simp)⟩, ?_⟩
  refine ⟨fun vs W hI hV => .inl ⟨by clear hI hV hst; go_simp, .inl (by clear hI hV hst; (try simp only [Act.put, hval, hval2, List.setIfInBounds_toArray, List.set_cons_zero, List.set_cons_succ]); go_simp)⟩, ?_⟩
  refine ⟨fun vs W hI hV => .inl ⟨by clear hI hV hst; go_simp, .inl (by clear hI hV hst; (try simp only [Act.put, hval, hval2, List.setIfInBounds_toArray, List.set_cons_zero, List.set_cons_succ]); go_simp)⟩, ?_⟩
  refine ⟨fun vs W hI hV => .inl ⟨by clear hI hV hst; go_simp, .inl (by have q := (A3.out.sees hI).cs.2.2.2.2.2.2.2.2.2.2.2.2.2.2.2.2.2; rw [E7.out] at q; clear hI hV hst; (try simp only [Act.put, hval, hval2, List.setIfInBounds_toArray, List.set_cons_zero, List.set_cons_succ]); go_simp)⟩, ?_⟩
  refine ⟨fun vs W hI hV => .inl ⟨by clear hI hV hst; go_simp, .inl (by clear hI hV hst; (try simp only [Act.put, hval, hval2, List.setIfInBounds_toArray, List.set_cons_zero, List.set_cons_succ]); go_simp)⟩, ?_⟩
  refine ⟨fun vs W hI hV => .inl ⟨by clear hI hV hst; (try simp only [Act.put, hval, hval2, List.setIfInBounds_toArray, List.set_cons_zero, List.set_cons_succ]); go_simp, .inl ⟨.slice (some ⟨W.heap.size, 0, none⟩) 8 8, W.alloc (.cells #[.int .u64 n0, .int .u64 n1, .int .u64 n2, .int .u64 n3, .int .u64 n4, .int .u64 n5, .int .u64 n6, .int .u64 n7] 49), by clear hI hV hst; (try simp only [Act.put, hval, hval2, List.setIfInBounds_toArray, List.set_cons_zero, List.set_cons_succ]); go_simp, rgGood_mk2 hst hI ⟨_, rfl, heap_alloc_new _ _⟩ ((Sees.refl W).alloc _)⟩⟩, ?_⟩
  refine ⟨fun vs W hI hV => ?_, ?_⟩
  · have hv30 := hV 30 _ (by kernel_rfl) rfl
    exact .inl ⟨by clear hI hV hst hv30; (try simp only [Act.put, hval, hval2, List.setIfInBounds_toArray, List.set_cons_zero, List.set_cons_succ]); go_simp, .inl ⟨vs 30, W, by clear hI hV hst hv30; (try simp only [Act.put, hval, hval2, List.setIfInBounds_toArray, List.set_cons_zero, List.set_cons_succ]); go_simp, rgGood_mk2 hst hI hv30 (Sees.refl W)⟩⟩
  intro vs w4 hI hV
  obtain ⟨b, hb, hrow⟩ : ∃ b, vs 31 = .slice (some ⟨b, 0, none⟩) 8 8 ∧ w4.heap[b]? = some (.cells #[.int .u64 n0, .int .u64 n1, .int .u64 n2, .int .u64 n3, .int .u64 n4, .int .u64 n5, .int .u64 n6, .int .u64 n7] 49 (0, 0)) := hV 31 _ rfl
  have S4 := Lib.hid (S3.out.trans hI)
  have HR := Lib.hid hrow
  clear hI hV hst A3 S3 hrow
  (try simp only [Act.put, hval, hval2, List.setIfInBounds_toArray, List.set_cons_zero, List.set_cons_succ])
  go_simp
  clear hb
  have HL8 : L.length = 8 := by rw [HLL.out]; rfl
  have Hlt : Hid (∀ x ∈ L, x < 18446744073709551616) := by
    rw [HLL.out]
    intro x hx
    simp only [List.mem_cons, List.not_mem_nil, or_false] at hx
    omega
  have Hcell : Hid (∀ (i n : Nat), L[i]? = some n → w4.cell? ⟨b, i, none⟩ = some (.int .u64 (n : Int))) := by
    intro i n hn
    rw [Go.cell_of_row _ _ i _ _ _ HR.out]
    have e : (#[.int .u64 n0, .int .u64 n1, .int .u64 n2, .int .u64 n3, .int .u64 n4, .int .u64 n5, .int .u64 n6, .int .u64 n7] : Array Value) = (L.map fun (n : Nat) => Value.int .u64 (n : Int)).toArray := by rw [HLL.out]; rfl
    rw [e, List.getElem?_toArray, List.getElem?_map, hn]
    rfl
  have HL8' := Lib.hid HL8
  clear HLL HR HL8 B2 B4 E0 E1 E5 E6 E7 v0 v1 v5 v6 v7 q0 q1 q2 q3 q4 q5 q6 q7 q8 q9 w2 w3 k4
  go_wp2_with fail
  go_loopw [7, 6] (fun x v W => ∃ i : Nat, i ≤ 8 ∧ x = .int .i64 i ∧ v = .string ⟨(textN (L.take i)).toArray⟩ ∧ RowKit.Hid (Sees w4 W)) (fun x _ _ => 8 - (intOf x).toNat)
  case atStart => exact ⟨0, by omega, rfl, rfl, Lib.hid (Sees.refl _)⟩
  case round =>
    obtain ⟨i, hi, rfl, rfl, hS⟩ := hrel
    by_cases hlt : i < 8
    · obtain ⟨n, hn⟩ : ∃ n, L[i]? = some n := ⟨_, List.getElem?_eq_getElem (by rw [HL8'.out]; exact hlt)⟩
      have Hc := Lib.hid (fun W (s : Sees wr W) => (hS.out.trans s).cell (Hcell.out i n hn))
      have hnl := Hlt.out n (List.mem_of_getElem? hn)
      have hf := Lib.hid (fun W => rdec_any n hnl W)
      have hl1 := textN_len (L.take i) (fun x hx => Hlt.out x (List.mem_of_mem_take hx))
      rw [List.length_take, HL8'.out] at hl1
      have hl2 := dec_len hnl
      have hns : Hid (i ≠ 0 → textN (L.take (i + 1)) = textN (L.take i) ++ 32 :: Lib.decDigits n) := fun h0 => by
        rw [List.take_add_one, hn]
        exact textN_snoc _ _ (fun e => by have e2 := congrArg List.length e; rw [List.length_take, HL8'.out] at e2; simp at e2; omega)
      have hn0 : Hid (i = 0 → textN (L.take (i + 1)) = Lib.decDigits n) := fun h0 => by
        subst h0
        rw [List.take_add_one, hn]
        rfl
      obtain ⟨T, hT⟩ : ∃ T, T = textN (L.take (i + 1)) := ⟨_, rfl⟩
      rw [← hT] at hns hn0
      have HT := Lib.hid hT
      clear hn hT
      obtain ⟨X, hX⟩ : ∃ X, X = textN (L.take i) := ⟨_, rfl⟩
      rw [← hX] at hns hl1 ⊢
      have HX := Lib.hid hX
      clear hX
      have hcr := Hc.out wr (Sees.refl _)
      by_cases h0 : i = 0
      · have hX0 : X = [] := by rw [HX.out, h0]; rfl
        subst hX0
        have hcat : (⟨([] : List UInt8).toArray⟩ : ByteArray) ++ ⟨(Lib.decDigits n).toArray⟩ = ⟨T.toArray⟩ := ba_app _ _ _ (by rw [hn0.out h0]; rfl)
        have t0 : decide ((i : Int) > 0) = false := decide_eq_false (by omega)
        have t1 : ¬ (0 < (i : Int)) := by omega
        clear h0
        go_wp2_with fail
        refine (hf.out _).mono ?_
        rintro e W5 ⟨rfl, s5⟩
        clear hcr
        go_wp2
        go_roundw
        case rel => exact ⟨i + 1, by omega, by go_num, by rw [← HT.out], Lib.hid (hS.out.trans s5)⟩
        case measure => simp [intOf]; omega
      · have hcat1 : (⟨X.toArray⟩ : ByteArray) ++ ⟨#[32]⟩ = ⟨(X ++ [32]).toArray⟩ := ba_app X [32] _ rfl
        obtain ⟨Y, hY⟩ : ∃ Y, Y = X ++ [32] := ⟨_, rfl⟩
        have hcat : (⟨Y.toArray⟩ : ByteArray) ++ ⟨(Lib.decDigits n).toArray⟩ = ⟨T.toArray⟩ := ba_app _ _ _ (by rw [hns.out h0, hY]; simp)
        have hly : Y.length ≤ 21 * 8 + 1 := by rw [hY, List.length_append]; simp; omega
        rw [← hY] at hcat1
        have t0 : decide ((i : Int) > 0) = true := decide_eq_true (by omega)
        have t1 : (0 < (i : Int)) := by omega
        clear hY h0
        go_wp2_with fail
        refine (hf.out _).mono ?_
        rintro e W5 ⟨rfl, s5⟩
        clear hcr
        go_wp2
        go_roundw
        case rel => exact ⟨i + 1, by omega, by go_num, by rw [← HT.out], Lib.hid (hS.out.trans s5)⟩
        case measure => simp [intOf]; omega
    · obtain rfl : i = 8 := by omega
      rw [List.take_of_length_le (by rw [HL8'.out]; exact Nat.le_refl _)]
      go_wp2
      go_ret
      exact ⟨rfl, S4.out.trans hS.out⟩
theorem rtext_ok (s : Sv) (hv : s.ok = true) (n : Nat) (hn : n < 18446744073709551616) (w : World) : Calls Tryd.prog 17 #[s.val, .int .u64 (n : Int)] w fun e w' => e = .returned (.string ⟨(textN (s.nums n)).toArray⟩) ∧ Sees w w' := by
  obtain ⟨⟨q0, q1, q2, q3⟩, ⟨q4, q5⟩, ⟨q6, q7⟩, q8, q9⟩ := cs_small hv
  exact rtext0 s hv s.row.toNat s.col.toNat (bitN s.pend) n (bitN s.org) s.g0.toNat s.g1.toNat s.act.toNat (by omega) (by omega) rfl hn rfl (by omega) (by omega) (by omega) _ rfl w
end Go.Proofs.YtfgifjdholdohaaDoor
