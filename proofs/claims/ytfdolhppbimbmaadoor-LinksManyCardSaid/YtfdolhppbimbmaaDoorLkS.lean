/- Strings: rows of them, their runes, a rune's bytes. No condition. -/
import Derived.Test.YtfdolhppbimbmaaDoorTtA
import Derived.Lib.RuneLoops
import Derived.Lib.MapLaws
import Derived.Laws.Cover4
import Derived.Stop.FmtQuoteTie
namespace Go.Proofs.YtfdolhppbimbmaaDoor
set_option linter.unusedVariables false
set_option linter.unusedSimpArgs false
open Go.RowKit
attribute [local go_sem] Oper.semAt_some
open Go.Extern.FmtText (enc1 enc2 enc3 enc4)

def sEl : El ByteArray := strEl 9
theorem typedS : El.Typed Tryd.prog sEl 52 := El.typed_of (z := .string ⟨#[]⟩) (bytes := 16) Tryd.underlying52 (by kernel_rfl) rfl (by decide)
theorem str_cell {F : Nat → Prop} {w : World} {a : Option Addr} {n c : Nat} {xs : List ByteArray} (h : sEl.Rd F w (.slice a n c) xs) {k : Nat} (hk : k < n) : ∃ b o x, a = some ⟨b, o, none⟩ ∧ xs[k]? = some x ∧ w.cell? ⟨b, o + k, none⟩ = some (.string x) := by
  have hl : n = xs.length := h.len
  obtain ⟨ao, cap, e, _, hh⟩ := h
  cases e
  obtain ⟨b, o, rfl, _, hc⟩ := hh (fun e => by rw [e] at hk; simp at hk)
  have hx : xs[k]? = some xs[k] := List.getElem?_eq_getElem (by omega)
  obtain ⟨vs, h1, h2⟩ := hc k _ hx
  have e : vs = [.string xs[k]] := h1
  have := h2 0 (.string xs[k]) (by rw [e]; rfl)
  exact ⟨b, o, _, rfl, hx, by simpa [show sEl.n = 1 from rfl] using this⟩
theorem dec_width (s : ByteArray) (pos : Nat) (h : pos < s.size) : 1 ≤ (Utf8.decode s pos).2 ∧ pos + (Utf8.decode s pos).2 ≤ s.size := by
  have hne : s.data.toList.drop pos ≠ [] := fun e => by
    have := congrArg List.length e
    rw [List.length_drop, ← Lib.size_eq] at this
    simp at this
    omega
  have hwid := Lib.decodeL_width (s.data.toList.drop pos)
  have hwle := Lib.decodeL_le (s.data.toList.drop pos) hne
  rw [Lib.decodeL_drop] at hwid hwle
  rw [List.length_drop, ← Lib.size_eq] at hwle
  omega
theorem enc_rune (r : Nat) : Utf8.encode (r : Int) = strL (Lib.encodeRune (r : Int)) := by
  refine bytes_ext ?_
  rw [strL_list, Lib.encodeRune, ← Go.Extern.FmtText.encode_eq]
  simp only [Go.Extern.FmtText.nums, List.map_map]
  symm
  exact (List.map_congr_left (fun b _ => by simp)).trans (List.map_id _)
theorem conv_rune (r : Int) (W : World) : (convert 59 9 (.slice (some ⟨W.heap.size, 0, none⟩) 1 1)).run Tryd.prog (W.alloc (.cells #[.int .i32 r] 21)) = .ok (.string (Utf8.encode r)) (W.alloc (.cells #[.int .i32 r] 21)) := by
  have q := run_convert_runes (P := Tryd.prog) (W.alloc (.cells #[.int .i32 r] 21)) 59 9 21 ⟨W.heap.size, 0, none⟩ 1 1 [r] (by simp) Tryd.underlying59 Tryd.underlying21 Tryd.underlying9 (fun j hj => by
    obtain rfl : j = 0 := by simp at hj; omega
    rw [addr_add, cell_of_row _ _ _ _ _ _ (heap_alloc_new W _)]
    rfl)
  rw [q]
  have e : runesBytes ([r].take 1) = Utf8.encode r := by simp [runesBytes]
  rw [e]
theorem enc_len4 (r : Int) : 1 ≤ (Lib.encodeRune r).length ∧ (Lib.encodeRune r).length ≤ 4 := by
  have h := Lib.encodeRuneZ_length r
  unfold Lib.encodeRune
  rw [List.length_map]
  exact h
theorem enc_list (r : Nat) : Lib.encodeRune (r : Int) = (Utf8.encode (r : Int)).data.toList := by rw [enc_rune, strL_list]
theorem b_nat (n : Nat) (h : n < 256) : (UInt8.ofNat n).toNat = n := by simp; omega
set_option maxRecDepth 100000 in
theorem dec_enc (r : Nat) (hv : r < 55296 ∨ (57344 ≤ r ∧ r ≤ 1114111)) (t : List UInt8) : Lib.decodeL (Lib.encodeRune (r : Int) ++ t) = (r, (Lib.encodeRune (r : Int)).length) := by
  rw [enc_list, Lib.decodeL_N]
  have hval : Utf8.valid (r : Int) = true := by simp [Utf8.valid]; omega
  by_cases c1 : r < 128
  · rw [enc1 r c1]
    simp only [List.cons_append, List.nil_append, List.getD_cons_zero, List.length_cons, List.length_nil]
    rw [b_nat r (by omega)]
    unfold Lib.decodeN
    simp [c1]
  by_cases c2 : r < 2048
  · rw [enc2 r c1 c2]
    simp only [List.cons_append, List.nil_append, List.getD_cons_zero, List.getD_cons_succ, List.length_cons, List.length_nil]
    rw [b_nat (192 + r / 64) (by omega), b_nat (128 + r % 64) (by omega)]
    unfold Lib.decodeN
    have e1 : ¬ (192 + r / 64 < 128) := by omega
    have e2 : (192 + r / 64) / 32 = 6 := by omega
    have e3 : (128 + r % 64) / 64 = 2 := by omega
    have e4 : (192 + r / 64) % 32 * 64 + (128 + r % 64) % 64 = r := by omega
    have e5 : (192 + r / 64) % 32 * 64 + (128 + r) % 64 = r := by omega
    have e6 : 128 ≤ r := by omega
    simp [e1, e2, e3, e5, e6]
  by_cases c3 : r < 65536
  · rw [enc3 r c2 c3 (by omega)]
    simp only [List.cons_append, List.nil_append, List.getD_cons_zero, List.getD_cons_succ, List.length_cons, List.length_nil]
    rw [b_nat (224 + r / 4096) (by omega), b_nat (128 + r / 64 % 64) (by omega), b_nat (128 + r % 64) (by omega)]
    unfold Lib.decodeN
    have e1 : ¬ (224 + r / 4096 < 128) := by omega
    have e2 : ¬ ((224 + r / 4096) / 32 = 6) := by omega
    have e3 : (224 + r / 4096) / 16 = 14 := by omega
    have e4 : (128 + r / 64 % 64) / 64 = 2 := by omega
    have e5 : (128 + r % 64) / 64 = 2 := by omega
    have e6 : (224 + r / 4096) % 16 * 4096 + (128 + r / 64 % 64) % 64 * 64 + (128 + r % 64) % 64 = r := by omega
    have e7 : (224 + r / 4096) % 16 * 4096 + (128 + r / 64) % 64 * 64 + (128 + r) % 64 = r := by omega
    have e8 : 2048 ≤ r := by omega
    simp [e1, e2, e3, e4, e5, e7, e8]
    omega
  · rw [enc4 r c3 (by omega)]
    simp only [List.cons_append, List.nil_append, List.getD_cons_zero, List.getD_cons_succ, List.length_cons, List.length_nil]
    rw [b_nat (240 + r / 262144) (by omega), b_nat (128 + r / 4096 % 64) (by omega), b_nat (128 + r / 64 % 64) (by omega), b_nat (128 + r % 64) (by omega)]
    unfold Lib.decodeN
    have e1 : ¬ (240 + r / 262144 < 128) := by omega
    have e2 : ¬ ((240 + r / 262144) / 32 = 6) := by omega
    have e3 : ¬ ((240 + r / 262144) / 16 = 14) := by omega
    have e4 : (240 + r / 262144) / 8 = 30 := by omega
    have e5 : (128 + r / 4096 % 64) / 64 = 2 := by omega
    have e6 : (128 + r / 64 % 64) / 64 = 2 := by omega
    have e7 : (128 + r % 64) / 64 = 2 := by omega
    have e8 : (240 + r / 262144) % 8 * 262144 + (128 + r / 4096 % 64) % 64 * 4096 + (128 + r / 64 % 64) % 64 * 64 + (128 + r % 64) % 64 = r := by omega
    have e9 : (240 + r / 262144) % 8 * 262144 + (128 + r / 4096) % 64 * 4096 + (128 + r / 64) % 64 * 64 + (128 + r) % 64 = r := by omega
    have e10 : 65536 ≤ r := by omega
    simp [e1, e2, e3, e4, e5, e6, e7, e9, e10]
    omega
end Go.Proofs.YtfdolhppbimbmaaDoor
