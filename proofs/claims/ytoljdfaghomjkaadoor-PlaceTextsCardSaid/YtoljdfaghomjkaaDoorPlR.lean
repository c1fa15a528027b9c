/- The reference's numerals. No condition. -/
import Derived.Test.YtoljdfaghomjkaaDoorPlN
import Derived.Lib.ItoaLen
import Derived.IntWalk
namespace Go.Proofs.YtoljdfaghomjkaaDoor
set_option linter.unusedVariables false
set_option linter.unusedSimpArgs false
open Go.RowKit

theorem conv_digit (W : World) (b d : Nat) (x : UInt8) (hx : x.toNat = 48 + d) (hc : W.cell? ⟨b, 0, none⟩ = some (.int .u8 (48 + d))) :
    (convert 63 9 (.slice (some ⟨b, 0, none⟩) 1 1)).run Tryd.prog W = .ok (.string ⟨#[x]⟩) W := by
  have := run_convert_bytes_back (P := Tryd.prog) W 63 9 5 ⟨b, 0, none⟩ 1 [x] Tryd.underlying63 Tryd.underlying5 Tryd.underlying9 (fun j hj => by
    obtain rfl : j = 0 := by simpa using hj
    rw [show (⟨b, 0, none⟩ : Addr).add 0 = ⟨b, 0, none⟩ from rfl, hc]
    simp only [List.getElem_cons_zero]
    rw [hx]
    rfl)
  exact this
set_option maxRecDepth 100000 in
set_option maxHeartbeats 2000000 in
theorem number_small (u : Nat) (h : u < 10) (w : World) :
    Calls Tryd.prog 34 #[.int .i64 u] w fun e w' => e = .returned (.string ⟨(Lib.decDigits u).toArray⟩) ∧ Sees w w' := by
  have hw := Sees.refl w
  have t1 : decide ((u : Int) < 10) = true := decide_eq_true (by omega)
  rw [Lib.decDigits_one h]
  have hx := dig_toNat h
  generalize UInt8.ofNat (48 + u) = x at hx ⊢
  have hcv := conv_digit (w.alloc (.cells #[.int .u8 (48 + (u : Int))] 5)) w.heap.size u x hx (by simp)
  clear hx
  go_enter Tryd.func34, Tryd.ntmps34
  go_wp2
  go_ret
  exact ⟨rfl, hw.alloc _⟩
set_option maxRecDepth 100000 in
set_option maxHeartbeats 4000000 in
theorem number_step (u : Nat) (h : ¬ u < 10) (hu : u < 2000000000000) (ih : ∀ w : World, Calls Tryd.prog 34 #[.int .i64 ((u / 10 : Nat) : Int)] w fun e w' => e = .returned (.string ⟨(Lib.decDigits (u / 10)).toArray⟩) ∧ Sees w w') (w : World) :
    Calls Tryd.prog 34 #[.int .i64 u] w fun e w' => e = .returned (.string ⟨(Lib.decDigits u).toArray⟩) ∧ Sees w w' := by
  have hw := Sees.refl w
  have t1 : decide ((u : Int) < 10) = false := decide_eq_false (by omega)
  have hD : Lib.decDigits u = Lib.decDigits (u / 10) ++ [UInt8.ofNat (48 + u % 10)] := by rw [Lib.decDigits, dif_neg h]
  have hlen : (Lib.decDigits (u / 10)).length ≤ 20 := by rw [Lib.decDigits_length]; exact Lib.nDigits_le20 _ (by omega)
  have hlen2 : (Lib.decDigits (u / 10)).length + 1 ≤ 9223372036854775807 := by omega
  have hlen3 : (Lib.decDigits (u / 10)).length ≤ 9223372036854775806 := by omega
  have hq : IntKind.i64.wrap ((u : Int) / 10) = ((u / 10 : Nat) : Int) := by rw [IntWalk.i64_in _ (by omega)]; omega
  have hr : (u : Int) % 10 = ((u % 10 : Nat) : Int) := by omega
  have hr2 : (u : Int).tmod 10 = ((u % 10 : Nat) : Int) := by rw [IntWalk.rem_in (u : Int) 10 (by omega)]; exact hr
  have hw1 : IntKind.i64.wrap ((u % 10 : Nat) : Int) = ((u % 10 : Nat) : Int) := IntWalk.i64_in _ (by omega)
  have hw2 : IntKind.i64.wrap (48 + ((u % 10 : Nat) : Int)) = 48 + ((u % 10 : Nat) : Int) := IntWalk.i64_in _ (by omega)
  have hw3 : IntKind.u8.wrap (48 + ((u % 10 : Nat) : Int)) = 48 + ((u % 10 : Nat) : Int) := IntWalk.u8_in _ (by omega)
  have hd : u % 10 < 10 := Nat.mod_lt _ (by decide)
  have hx := dig_toNat hd
  generalize UInt8.ofNat (48 + u % 10) = x at hx hD
  generalize u / 10 = v at *
  generalize u % 10 = d at *
  rw [hD]
  have hS : (⟨(Lib.decDigits v).toArray⟩ : ByteArray) ++ ⟨#[x]⟩ = ⟨(Lib.decDigits v ++ [x]).toArray⟩ := by
    apply ByteArray.ext
    simp
  obtain ⟨S, hS'⟩ : ∃ S : ByteArray, S = ⟨(Lib.decDigits v ++ [x]).toArray⟩ := ⟨_, rfl⟩
  rw [← hS'] at hS ⊢
  clear hS' hD
  go_enter Tryd.func34, Tryd.ntmps34
  go_wp2_with fail
  refine wpFrom_go (by kernel_rfl) (by kernel_rfl) (fun hB w2 hw2' => ?_)
  have hst : segStay (Sees w2) [.is (.int .i64 u), .is (.int .i64 v), .is (.string ⟨(Lib.decDigits v).toArray⟩), .is (.int .i64 u), .is (.int .i64 d), .is (.int .i64 (48 + (d : Int))), .is (.int .u8 (48 + (d : Int))),
      .so (fun x W => ∃ b, x = .slice (some ⟨b, 0, none⟩) 1 1 ∧ W.heap[b]? = some (.cells #[.int .u8 (48 + (d : Int))] 5 (0, 0))), .is (.string ⟨#[x]⟩), .is (.string S)] :=
    ⟨fun x W W' _ ⟨b, h1, h2⟩ hs => ⟨b, h1, by rw [hs.block _ (Array.getElem?_eq_some_iff.1 h2).1]; exact h2⟩, trivial⟩
  have hval : ∀ x v, (Spec.is x).val v = x := fun _ _ => rfl
  have hval2 : ∀ V v, (Spec.so V).val v = v := fun _ _ => rfl
  refine wpFrom_any 10 _ hB (by kernel_rfl) rfl hst (by simp only [List.cons_append, List.nil_append, List.drop_succ_cons, List.drop_zero, List.take_succ_cons, List.take_zero, Nat.reduceSub]; rfl) ?_
  refine ⟨fun vs W hI hV => .inl ⟨by go_simp, .inl (by go_simp)⟩, ?_⟩
  refine ⟨fun vs W hI hV => .inl ⟨by go_simp, .inl (by go_simp)⟩, ?_⟩
  refine ⟨fun vs W hI hV => .inl ⟨by clear hV; go_simp, .inr (.inr ⟨34, #[.int .i64 (v : Int)], by clear hI hV; go_simp, ih W⟩)⟩, ?_⟩
  refine ⟨fun vs W hI hV => .inl ⟨by go_simp, .inl (by go_simp)⟩, ?_⟩
  refine ⟨fun vs W hI hV => .inl ⟨by go_simp, .inl (by go_simp)⟩, ?_⟩
  refine ⟨fun vs W hI hV => .inl ⟨by go_simp, .inl (by go_simp)⟩, ?_⟩
  refine ⟨fun vs W hI hV => .inl ⟨by go_simp, .inl (by go_simp)⟩, ?_⟩
  refine ⟨fun vs W hI hV => .inl ⟨by clear hV; go_simp, .inl ⟨.slice (some ⟨W.heap.size, 0, none⟩) 1 1, W.alloc (.cells #[.int .u8 (48 + (d : Int))] 5), by clear hI hV; go_simp, rgGood_mk hst hI ⟨_, rfl, heap_alloc_new _ _⟩ ((Sees.refl W).alloc _)⟩⟩, ?_⟩
  refine ⟨fun vs W hI hV => .inl ⟨by clear hV; go_simp, .inl (by
    obtain ⟨b, e1, e2⟩ := hV 7 _ (by kernel_rfl) rfl
    have hcv := conv_digit W b d x hx (by rw [cell_of_row _ _ _ _ _ _ e2]; rfl)
    clear hI hV e2 hx hst
    first | (go_simp; done) | (go_simp; rw [e1]; done) | (go_simp; rw [e1]; go_simp))⟩, ?_⟩
  refine ⟨fun vs W hI hV => .inl ⟨by clear hV; go_simp, .inl (by clear hI hV hx hst; go_simp)⟩, ?_⟩
  intro vs w3 hI hV
  have hS3 := hw2'.trans hI
  clear hI hV hst hx
  go_simp
  refine wpFrom_to 11 hB (fun _ _ _ _ _ h => h) (by kernel_rfl) (by simp only [List.cons_append, List.nil_append, List.drop_succ_cons, List.drop_zero, List.take_succ_cons, List.take_zero, Nat.reduceSub]; rfl) ?_
  go_wp2
  refine wpFrom_end rfl ?_; go_wp2
  go_ret
  exact ⟨rfl, hS3⟩
theorem number_any (u : Nat) (hu : u < 2000000000000) (w : World) :
    Calls Tryd.prog 34 #[.int .i64 u] w fun e w' => e = .returned (.string ⟨(Lib.decDigits u).toArray⟩) ∧ Sees w w' := by
  induction u using Nat.strongRecOn generalizing w with
  | _ u ih =>
    by_cases h : u < 10
    · exact number_small u h w
    · exact number_step u h hu (fun w => ih (u / 10) (by omega) (by omega) w) w
end Go.Proofs.YtoljdfaghomjkaaDoor
