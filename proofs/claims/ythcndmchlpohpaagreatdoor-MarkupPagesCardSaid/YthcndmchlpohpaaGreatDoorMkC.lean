/- The markup of a line, in plain Lean (48). markup's hex, color, Tags (48). markup.color as bytes (48). markup.Tags (48). No condition. -/
import Derived.Test.YthcndmchlpohpaaGreatDoorSrP
import Derived.Test.YthcndmchlpohpaaGreatDoorTtC
import Derived.Test.YthcndmchlpohpaaGreatDoorTtB
import Derived.Test.YthcndmchlpohpaaGreatDoorSeqH
namespace Go.Proofs.YthcndmchlpohpaaGreatDoor
set_option linter.unusedVariables false
set_option linter.unusedSimpArgs false
open Go.RowKit

/-- A number from 0 to 255 in decimal; two hexadecimal digits. -/
def decN (n : Nat) : List UInt8 := if n < 10 then [UInt8.ofNat (48 + n)] else if n < 100 then [UInt8.ofNat (48 + n / 10), UInt8.ofNat (48 + n % 10)] else [UInt8.ofNat (48 + n / 100), UInt8.ofNat (48 + n / 10 % 10), UInt8.ofNat (48 + n % 10)]
def hexD (n : Nat) : UInt8 := if n < 10 then UInt8.ofNat (48 + n) else UInt8.ofNat (87 + n)
def hexL (n : Nat) : List UInt8 := [hexD (n / 16), hexD (n % 16)]
/-- The tag of a color; the letters of flags; the tags of a cell's pen. -/
def tagC (sign : UInt8) (k i r g b : Int) : List UInt8 := if k = 1 then sign :: decN i.toNat else if k = 2 then sign :: 35 :: (hexL r.toNat ++ hexL g.toNat ++ hexL b.toNat) else []
def letL : List UInt8 := [98, 102, 105, 117, 108, 118, 104, 115]
def flagL (n : Nat) : List UInt8 := (List.range 8).flatMap fun i => if n.testBit i then (letL[i]?).toList else []
def tagsL (c : Cell) : List UInt8 := flagL c.flags.toNat ++ tagC 43 c.f0 c.f1 c.f2 c.f3 c.f4 ++ tagC 45 c.b0 c.b1 c.b2 c.b3 c.b4
/-- The markup of a cell, of cells behind one, of a line. -/
def escB (r : Int) : Bool := r == 92 || r == 91 || r == 93 || r == 95
def mkC (c : Cell) : List UInt8 := if 0 < c.width ∧ c.rune = 0 then [95] else if escB c.rune then 92 :: c.txt else c.txt
def penOf (c : Cell) : List Int := [c.f0, c.f1, c.f2, c.f3, c.f4, c.b0, c.b1, c.b2, c.b3, c.b4, c.flags]
def mkFrom : Option (List Int) → List Cell → List UInt8
  | _, [] => []
  | p, c :: cs => (if p = some (penOf c) then [] else 91 :: (tagsL c ++ [93])) ++ (mkC c ++ mkFrom (some (penOf c)) cs)
def mkL (cs : List Cell) (so : Bool) : List UInt8 := mkFrom none (cs.take (usedN cs)) ++ (if so then [92] else [])
theorem mkFrom_none (cs : List Cell) : mkFrom none cs = [] ∨ ∃ t, mkFrom none cs = 91 :: t := by
  cases cs with
  | nil => exact .inl rfl
  | cons c cs =>
    refine .inr ⟨(tagsL c ++ [93]) ++ (mkC c ++ mkFrom (some (penOf c)) cs), ?_⟩
    rw [mkFrom, if_neg (by simp)]
    rfl
/-- A markup is empty, or one backslash, or begins with a bracket. -/
theorem mkL_first (cs : List Cell) (so : Bool) : mkL cs so = [] ∨ mkL cs so = [92] ∨ ∃ t, mkL cs so = 91 :: t := by
  unfold mkL
  rcases mkFrom_none (cs.take (usedN cs)) with h | ⟨t, h⟩
  · rw [h]
    cases so
    · exact .inl rfl
    · exact .inr (.inl rfl)
  · rw [h]
    exact .inr (.inr ⟨_, rfl⟩)
/-- Equal bytes are the markup of no line, unless they are brackets, or at most one. -/
theorem mkL_rep {cs : List Cell} {so : Bool} {b : UInt8} {n : Nat} (hn : 2 ≤ n) (hb : b ≠ 91) : mkL cs so ≠ List.replicate n b := by
  obtain ⟨k, rfl⟩ : ∃ k, n = k + 2 := ⟨n - 2, by omega⟩
  intro h
  rcases mkL_first cs so with e | e | ⟨t, e⟩
  · rw [e] at h; simp [List.replicate_succ] at h
  · rw [e] at h; simp [List.replicate_succ] at h
  · rw [e] at h
    rw [List.replicate_succ] at h
    exact hb (List.cons.inj h).1.symm
/-- The runs of cells: column, width, cells. -/
def runLen (p : List Int) : List Cell → Nat
  | [] => 0
  | c :: cs => if penOf c = p then runLen p cs + 1 else 0
theorem runLen_le (p : List Int) : ∀ cs, runLen p cs ≤ cs.length
  | [] => Nat.le_refl _
  | c :: cs => by
    unfold runLen
    split
    · have := runLen_le p cs; simp only [List.length_cons]; omega
    · exact Nat.zero_le _
end Go.Proofs.YthcndmchlpohpaaGreatDoor

namespace Go.Proofs.YthcndmchlpohpaaGreatDoor
set_option linter.unusedVariables false
set_option linter.unusedSimpArgs false
open Go.RowKit Go.Shelf
attribute [local go_sem] Oper.semAt_some

theorem and15 (n : Nat) (hn : n < 256) : bits BinOp.and IntKind.u8 (n : Int) 15 = ((n % 16 : Nat) : Int) :=
  (show ∀ m : Fin 256, bits BinOp.and IntKind.u8 ((m.val : Nat) : Int) 15 = ((m.val % 16 : Nat) : Int) by decide +kernel) ⟨n, hn⟩
theorem hex_at (q : Nat) (hq : q < 16) {h : q < (⟨#[48, 49, 50, 51, 52, 53, 54, 55, 56, 57, 97, 98, 99, 100, 101, 102]⟩ : ByteArray).size} : (⟨#[48, 49, 50, 51, 52, 53, 54, 55, 56, 57, 97, 98, 99, 100, 101, 102]⟩ : ByteArray)[q]'h = hexD q := by
  rcases (show q = 0 ∨ q = 1 ∨ q = 2 ∨ q = 3 ∨ q = 4 ∨ q = 5 ∨ q = 6 ∨ q = 7 ∨ q = 8 ∨ q = 9 ∨ q = 10 ∨ q = 11 ∨ q = 12 ∨ q = 13 ∨ q = 14 ∨ q = 15 by omega) with rfl | rfl | rfl | rfl | rfl | rfl | rfl | rfl | rfl | rfl | rfl | rfl | rfl | rfl | rfl | rfl <;> rfl
theorem exec_conv {P : Program} {ρ : Operand → Value} {o : Oper} {s t : TypeId} {x : Operand} {a v : Value} {W W' : World} (ho : o.op = .convert s t x) (hx : ρ x = a) (h : (convert s t a).run P W = .ok v W') : (execOp ρ o).run P W = .ok (.value v) W' := by
  unfold execOp
  simp only [ho, hx, Sem.run_bind, h, Result.andThen_ok, Sem.run_pure]
theorem two_string {W : World} {g : Nat} {a b : UInt8} (hg : W.heap[g]? = some (.cells #[.int .u8 (a.toNat : Int), .int .u8 (b.toNat : Int)] 5 (0, 0))) : (convert 23 9 (.slice (some ⟨g, 0, none⟩) 2 2)).run Tryz.prog W = .ok (.string (strL [a, b])) W :=
  run_convert_bytes_back (P := Tryz.prog) W 23 9 5 ⟨g, 0, none⟩ 2 [a, b] Tryz.underlying23 Tryz.underlying5 Tryz.underlying9 (fun j hj => by
    rw [show (⟨g, 0, none⟩ : Addr).add j = ⟨g, j, none⟩ by rw [addr_add, Nat.zero_add], cell_of_row _ _ _ _ _ _ hg]
    have hj2 : j < 2 := hj
    rcases (show j = 0 ∨ j = 1 by omega) with rfl | rfl <;> rfl)
set_option maxHeartbeats 1000000 in
theorem hex_any (n : Nat) (hn : n < 256) (w : World) : Calls Tryz.prog 45 #[.int .u8 (n : Int)] w fun e w' => e = .returned (.string (strL (hexL n))) ∧ Sees w w' := by
  have hw := Sees.refl w
  obtain ⟨q, hq⟩ : ∃ q, q = n / 16 := ⟨_, rfl⟩
  obtain ⟨r, hr⟩ : ∃ r, r = n % 16 := ⟨_, rfl⟩
  have hL : hexL n = [hexD q, hexD r] := by rw [hq, hr]; rfl
  have h1 : (n : Int) / 16 = (q : Int) := by omega
  have h2 := and15 n hn
  rw [← hr] at h2
  have hq16 : q < 16 := by omega
  have hr16 : r < 16 := by omega
  rw [hL]
  clear hL hq hr
  go_enter Tryz.func45, Tryz.ntmps45
  go_upto_region 1 with fail
  refine wpH_go (fun _ => False) 9 (by kernel_rfl) (by kernel_rfl) (by rfl) (fun hB v0 hs9 => ?_)
  have hS0 : Keeps (fun _ => False) v0 v0 := Keeps.refl _ v0
  refine wpH_take (i := 0) (v := .int .u8 (n : Int)) hB (by rfl) (by kernel_rfl) (fun _ _ _ _ _ h => h) (by rfl) hS0 (fun W hI => by clear hI; go_simp) ?_; (try simp only [Act.put, List.setIfInBounds_toArray, List.set_cons_zero, List.set_cons_succ])
  refine wpH_take (i := 1) (v := .int .u8 (q : Int)) hB (by rfl) (by kernel_rfl) (fun _ _ _ _ _ h => h) (by rfl) hS0 (fun W hI => by clear hI; go_simp) ?_; (try simp only [Act.put, List.setIfInBounds_toArray, List.set_cons_zero, List.set_cons_succ])
  refine wpH_take (i := 3) (v := .int .u8 (n : Int)) hB (by rfl) (by kernel_rfl) (fun _ _ _ _ _ h => h) (by rfl) hS0 (fun W hI => by clear hI; go_simp) ?_; (try simp only [Act.put, List.setIfInBounds_toArray, List.set_cons_zero, List.set_cons_succ])
  refine wpH_take (i := 4) (v := .int .u8 (r : Int)) hB (by rfl) (by kernel_rfl) (fun _ _ _ _ _ h => h) (by rfl) hS0 (fun W hI => by clear hI; go_simp) ?_; (try simp only [Act.put, List.setIfInBounds_toArray, List.set_cons_zero, List.set_cons_succ])
  refine wpH_take (i := 2) (v := .int .u8 ((hexD q).toNat : Int)) hB (by rfl) (by kernel_rfl) (fun _ _ _ _ _ h => h) (by rfl) hS0 (fun W hI => ?_) ?_
  · go_simp
    rw [dif_pos (by omega)]
    rw [hex_at q (by omega)]
    rfl
  (try simp only [Act.put, List.setIfInBounds_toArray, List.set_cons_zero, List.set_cons_succ])
  refine wpH_take (i := 5) (v := .int .u8 ((hexD r).toNat : Int)) hB (by rfl) (by kernel_rfl) (fun _ _ _ _ _ h => h) (by rfl) hS0 (fun W hI => ?_) ?_
  · go_simp
    rw [dif_pos (by omega)]
    rw [hex_at r (by omega)]
    rfl
  (try simp only [Act.put, List.setIfInBounds_toArray, List.set_cons_zero, List.set_cons_succ])
  have hs : Sees v0 (v0.alloc (.cells #[.int .u8 ((hexD q).toNat : Int), .int .u8 ((hexD r).toNat : Int)] 5)) := (Sees.refl _).alloc _
  refine wpH_one (i := 6) (by kernel_rfl) (wpOp_val (v := .slice (some ⟨v0.heap.size, 0, none⟩) 2 2) (w' := v0.alloc (.cells #[.int .u8 ((hexD q).toNat : Int), .int .u8 ((hexD r).toNat : Int)] 5)) (by rfl) (wanted_none (by rfl) _) (by go_simp) ⟨hS0.trans (Keeps.of_sees hs), ?_⟩)
  (try simp only [Act.put, List.setIfInBounds_toArray, List.set_cons_zero, List.set_cons_succ])
  have hg := heap_alloc_new v0 (.cells #[.int .u8 ((hexD q).toNat : Int), .int .u8 ((hexD r).toNat : Int)] 5)
  generalize v0.alloc (.cells #[.int .u8 ((hexD q).toNat : Int), .int .u8 ((hexD r).toNat : Int)] 5) = v1 at *
  have hS1 := hS0.trans (Keeps.of_sees hs)
  refine wpH_one (i := 7) (by kernel_rfl) (wpOp_val (v := .string (strL [hexD q, hexD r])) (w' := v1) (by rfl) (wanted_none (by rfl) _) (exec_conv rfl (by go_simp) (two_string hg)) ⟨hS1, ?_⟩)
  (try simp only [Act.put, List.setIfInBounds_toArray, List.set_cons_zero, List.set_cons_succ])
  clear hS0
  have hS0 := hS1
  refine wpH_take (i := 8) (v := .string (strL [hexD q, hexD r])) hB (by rfl) (by kernel_rfl) (fun _ _ _ _ _ h => h) (by rfl) hS0 (fun W hI => by clear hI; go_simp) ?_; (try simp only [Act.put, List.setIfInBounds_toArray, List.set_cons_zero, List.set_cons_succ])
  refine wpH_end (by kernel_rfl) ?_
  clear hS0 hB
  go_wp2
  go_ret
  exact ⟨rfl, hs9.trans hs⟩
def ClAt (W : World) (p : Nat) (k : Int) (i r g b : Nat) : Prop := W.heap[p]? = some (.cells #[.int .i64 k, .int .u8 (i : Int), .int .u8 (r : Int), .int .u8 (g : Int), .int .u8 (b : Int)] 37 (0, 0))
theorem ClAt.sees {W W' : World} {p : Nat} {k : Int} {i r g b : Nat} (h : ClAt W p k i r g b) (hs : Sees W W') : ClAt W' p k i r g b := by
  unfold ClAt at *
  rw [hs.block _ (Array.getElem?_eq_some_iff.1 h).1]; exact h
theorem ClAt.c {W : World} {p : Nat} {k : Int} {i r g b : Nat} (h : ClAt W p k i r g b) : W.cell? ⟨p, 0, none⟩ = some (.int .i64 k) ∧ W.cell? ⟨p, 1, none⟩ = some (.int .u8 (i : Int)) ∧ W.cell? ⟨p, 2, none⟩ = some (.int .u8 (r : Int)) ∧ W.cell? ⟨p, 3, none⟩ = some (.int .u8 (g : Int)) ∧ W.cell? ⟨p, 4, none⟩ = some (.int .u8 (b : Int)) :=
  ⟨by rw [cell_of_row _ _ _ _ _ _ h]; rfl, by rw [cell_of_row _ _ _ _ _ _ h]; rfl, by rw [cell_of_row _ _ _ _ _ _ h]; rfl, by rw [cell_of_row _ _ _ _ _ _ h]; rfl, by rw [cell_of_row _ _ _ _ _ _ h]; rfl⟩
set_option maxHeartbeats 1000000 in
theorem color_one (s : ByteArray) (hs1 : s.size ≤ 1) (i r g b : Nat) (hi : i < 256) (w : World) (KI : ∀ W, Sees w W → Calls Tryz.prog 44 #[.int .i64 (i : Int)] W fun e w' => e = .returned (.string (strL (decN i))) ∧ Sees W w') :
    Calls Tryz.prog 29 #[.string s, .agg #[.int .i64 1, .int .u8 (i : Int), .int .u8 (r : Int), .int .u8 (g : Int), .int .u8 (b : Int)]] w fun e w' => e = .returned (.string (s ++ strL (decN i))) ∧ Sees w w' := by
  have hD : (strL (decN i)).size ≤ 3 := by rw [strL_size]; unfold decN; split <;> (try split) <;> simp
  obtain ⟨D, hDD⟩ : ∃ D, D = strL (decN i) := ⟨_, rfl⟩
  rw [← hDD] at hD KI ⊢
  have hsz : s.size + D.size ≤ 9223372036854775807 := by omega
  clear hDD hD hs1
  have HKI := Lib.hid KI
  have k1 : IntKind.i64.wrap (i : Int) = (i : Int) := IntWalk.i64_in _ (by omega)
  clear KI
  go_enter Tryz.func29, Tryz.ntmps29
  go_upto_region 1 with fail
  refine wp_world fun W1 hW1 => ?_
  have p1 : ClAt W1 w.heap.size 1 i r g b := by subst hW1; exact heap_alloc_new w _
  have S1 : Hid (Sees w W1) := by subst hW1; exact (Sees.refl w).alloc _
  obtain ⟨q0, q1, q2, q3, q4⟩ := p1.c
  clear hW1 p1
  go_wp2_with fail
  refine (HKI.out W1 S1.out).mono ?_
  rintro e w2 ⟨rfl, hs⟩
  have S2 := Lib.hid (S1.out.trans hs)
  clear hs q0 q1 q2 q3 q4
  go_wp2
  go_ret
  exact ⟨rfl, S2.out⟩
set_option maxHeartbeats 1000000 in
theorem color_none (s : ByteArray) (k : Int) (i r g b : Nat) (h1 : k ≠ 1) (h2 : k ≠ 2) (w : World) :
    Calls Tryz.prog 29 #[.string s, .agg #[.int .i64 k, .int .u8 (i : Int), .int .u8 (r : Int), .int .u8 (g : Int), .int .u8 (b : Int)]] w fun e w' => e = .returned (.string ⟨#[]⟩) ∧ Sees w w' := by
  have e1 : (k == 1) = false := beq_eq_false_iff_ne.2 h1
  have e2 : (k == 2) = false := beq_eq_false_iff_ne.2 h2
  go_enter Tryz.func29, Tryz.ntmps29
  go_upto_region 1 with fail
  refine wp_world fun W1 hW1 => ?_
  have p1 : ClAt W1 w.heap.size k i r g b := by subst hW1; exact heap_alloc_new w _
  have S1 : Hid (Sees w W1) := by subst hW1; exact (Sees.refl w).alloc _
  obtain ⟨q0, q1, q2, q3, q4⟩ := p1.c
  clear hW1 p1 h1 h2
  go_wp2
  go_ret
  exact ⟨rfl, S1.out⟩
/-- A color by its parts. -/
structure ClM (w : World) (p : Nat) (k : Int) (i r g b : Nat) (W : World) : Prop where
  s : Sees w W
  p : ClAt W p k i r g b
theorem ClM.sees {w W W' : World} {p : Nat} {k : Int} {i r g b : Nat} (h : ClM w p k i r g b W) (hs : Sees W W') : ClM w p k i r g b W' := ⟨h.s.trans hs, h.p.sees hs⟩
set_option maxHeartbeats 2000000 in
theorem color_two (s : ByteArray) (hs1 : s.size ≤ 1) (i r g b : Nat) (hr : r < 256) (hg : g < 256) (hb : b < 256) (w : World) :
    Calls Tryz.prog 29 #[.string s, .agg #[.int .i64 2, .int .u8 (i : Int), .int .u8 (r : Int), .int .u8 (g : Int), .int .u8 (b : Int)]] w fun e w' => e = .returned (.string (s ++ ⟨#[35]⟩ ++ strL (hexL r) ++ strL (hexL g) ++ strL (hexL b))) ∧ Sees w w' := by
  have KR := Lib.hid (fun W => hex_any r hr W)
  have KG := Lib.hid (fun W => hex_any g hg W)
  have KB := Lib.hid (fun W => hex_any b hb W)
  have hRs : (strL (hexL r)).size = 2 := strL_size _
  have hGs : (strL (hexL g)).size = 2 := strL_size _
  have hBs : (strL (hexL b)).size = 2 := strL_size _
  generalize strL (hexL r) = R at *
  generalize strL (hexL g) = G at *
  generalize strL (hexL b) = B at *
  have z1 : s.size + (⟨#[35]⟩ : ByteArray).size ≤ 9223372036854775807 := by have : (⟨#[35]⟩ : ByteArray).size = 1 := rfl; omega
  have z1' : s.size + 1 ≤ 9223372036854775807 := by omega
  have y1 : (s ++ ⟨#[35]⟩).size ≤ 2 := by rw [ByteArray.size_append]; have : (⟨#[35]⟩ : ByteArray).size = 1 := rfl; omega
  have y2 : (s ++ ⟨#[35]⟩ ++ R).size ≤ 4 := by rw [ByteArray.size_append]; omega
  have y3 : (s ++ ⟨#[35]⟩ ++ R ++ G).size ≤ 6 := by rw [ByteArray.size_append]; omega
  have z2 : (s ++ ⟨#[35]⟩).size + R.size ≤ 9223372036854775807 := by omega
  have z3 : (s ++ ⟨#[35]⟩ ++ R).size + G.size ≤ 9223372036854775807 := by omega
  have z4 : (s ++ ⟨#[35]⟩ ++ R ++ G).size + B.size ≤ 9223372036854775807 := by omega
  have x2 : s.size + 1 + R.size ≤ 9223372036854775807 := by omega
  have x3 : s.size + 1 + R.size + G.size ≤ 9223372036854775807 := by omega
  have x4 : s.size + 1 + R.size + G.size + B.size ≤ 9223372036854775807 := by omega
  clear hRs hGs hBs hs1 y1 y2 y3 hr hg hb
  go_enter Tryz.func29, Tryz.ntmps29
  go_upto_region 1 with fail
  refine wp_world fun W1 hW1 => ?_
  obtain ⟨b3, hb3⟩ : ∃ b3, b3 = w.heap.size := ⟨_, rfl⟩
  have M1 : Hid (ClM w b3 2 i r g b W1) := ⟨by subst hW1; exact (Sees.refl w).alloc _, by subst hW1; rw [hb3]; exact heap_alloc_new w _⟩
  rw [← hb3]
  obtain ⟨q0, q1, q2, q3, q4⟩ := M1.out.p.c
  clear hW1 hb3
  go_upto_region 5 with fail
  clear q0 q1 q2 q3 q4
  refine wpH_go (fun _ => False) 15 (by kernel_rfl) (by kernel_rfl) (by rfl) (fun hB v0 hs9 => ?_)
  have E0 := Lib.hid (M1.out.sees hs9)
  clear hs9
  have hS0 : Keeps (fun _ => False) v0 v0 := Keeps.refl _ v0
  refine wpH_take (i := 0) (v := .string s) hB (by rfl) (by kernel_rfl) (fun _ _ _ _ _ h => h) (by rfl) hS0 (fun W hI => by clear hI; go_simp) ?_; (try simp only [Act.put, List.setIfInBounds_toArray, List.set_cons_zero, List.set_cons_succ])
  refine wpH_take (i := 1) (v := .string (s ++ ⟨#[35]⟩)) hB (by rfl) (by kernel_rfl) (fun _ _ _ _ _ h => h) (by rfl) hS0 (fun W hI => by clear hI; go_simp) ?_; (try simp only [Act.put, List.setIfInBounds_toArray, List.set_cons_zero, List.set_cons_succ])
  refine wpH_take (i := 2) (v := .pointer (some ⟨b3, 2, none⟩)) hB (by rfl) (by kernel_rfl) (fun _ _ _ _ _ h => h) (by rfl) hS0 (fun W hI => by clear hI; go_simp) ?_; (try simp only [Act.put, List.setIfInBounds_toArray, List.set_cons_zero, List.set_cons_succ])
  refine wpH_take (i := 3) (v := .int .u8 (r : Int)) hB (by rfl) (by kernel_rfl) (fun _ _ _ _ _ h => h) (by rfl) hS0 (fun W hI => by obtain ⟨q0, q1, q2, q3, q4⟩ := (E0.out.p.sees (hI.sees_end (fun _ _ h => h))).c; go_simp) ?_; (try simp only [Act.put, List.setIfInBounds_toArray, List.set_cons_zero, List.set_cons_succ])
  refine wpH_take (i := 6) (v := .pointer (some ⟨b3, 3, none⟩)) hB (by rfl) (by kernel_rfl) (fun _ _ _ _ _ h => h) (by rfl) hS0 (fun W hI => by clear hI; go_simp) ?_; (try simp only [Act.put, List.setIfInBounds_toArray, List.set_cons_zero, List.set_cons_succ])
  refine wpH_take (i := 7) (v := .int .u8 (g : Int)) hB (by rfl) (by kernel_rfl) (fun _ _ _ _ _ h => h) (by rfl) hS0 (fun W hI => by obtain ⟨q0, q1, q2, q3, q4⟩ := (E0.out.p.sees (hI.sees_end (fun _ _ h => h))).c; go_simp) ?_; (try simp only [Act.put, List.setIfInBounds_toArray, List.set_cons_zero, List.set_cons_succ])
  refine wpH_take (i := 10) (v := .pointer (some ⟨b3, 4, none⟩)) hB (by rfl) (by kernel_rfl) (fun _ _ _ _ _ h => h) (by rfl) hS0 (fun W hI => by clear hI; go_simp) ?_; (try simp only [Act.put, List.setIfInBounds_toArray, List.set_cons_zero, List.set_cons_succ])
  refine wpH_take (i := 11) (v := .int .u8 (b : Int)) hB (by rfl) (by kernel_rfl) (fun _ _ _ _ _ h => h) (by rfl) hS0 (fun W hI => by obtain ⟨q0, q1, q2, q3, q4⟩ := (E0.out.p.sees (hI.sees_end (fun _ _ h => h))).c; go_simp) ?_; (try simp only [Act.put, List.setIfInBounds_toArray, List.set_cons_zero, List.set_cons_succ])
  refine wpH_one (i := 4) (by kernel_rfl) (wpOp_enter (fn := 45) (args := #[.int .u8 (r : Int)]) (by rfl) (by rfl) (by go_simp) ((KR.out v0).mono ?_))
  rintro ee v1 ⟨rfl, hs⟩
  have hTT := hS0.trans (Keeps.of_sees hs)
  refine ⟨_, rfl, hTT, ?_⟩
  (try simp only [Act.put, List.setIfInBounds_toArray, List.set_cons_zero, List.set_cons_succ])
  have E1 := Lib.hid (E0.out.sees hs)
  clear hs hS0
  have hS0 := hTT
  clear hTT
  refine wpH_take (i := 5) (v := .string (s ++ ⟨#[35]⟩ ++ R)) hB (by rfl) (by kernel_rfl) (fun _ _ _ _ _ h => h) (by rfl) hS0 (fun W hI => by clear hI; go_simp) ?_; (try simp only [Act.put, List.setIfInBounds_toArray, List.set_cons_zero, List.set_cons_succ])
  refine wpH_one (i := 8) (by kernel_rfl) (wpOp_enter (fn := 45) (args := #[.int .u8 (g : Int)]) (by rfl) (by rfl) (by go_simp) ((KG.out v1).mono ?_))
  rintro ee v2 ⟨rfl, hs⟩
  have hTT := hS0.trans (Keeps.of_sees hs)
  refine ⟨_, rfl, hTT, ?_⟩
  (try simp only [Act.put, List.setIfInBounds_toArray, List.set_cons_zero, List.set_cons_succ])
  have E2 := Lib.hid (E1.out.sees hs)
  clear hs hS0
  have hS0 := hTT
  clear hTT
  refine wpH_take (i := 9) (v := .string (s ++ ⟨#[35]⟩ ++ R ++ G)) hB (by rfl) (by kernel_rfl) (fun _ _ _ _ _ h => h) (by rfl) hS0 (fun W hI => by clear hI; go_simp) ?_; (try simp only [Act.put, List.setIfInBounds_toArray, List.set_cons_zero, List.set_cons_succ])
  refine wpH_one (i := 12) (by kernel_rfl) (wpOp_enter (fn := 45) (args := #[.int .u8 (b : Int)]) (by rfl) (by rfl) (by go_simp) ((KB.out v2).mono ?_))
  rintro ee v3 ⟨rfl, hs⟩
  have hTT := hS0.trans (Keeps.of_sees hs)
  refine ⟨_, rfl, hTT, ?_⟩
  (try simp only [Act.put, List.setIfInBounds_toArray, List.set_cons_zero, List.set_cons_succ])
  have E3 := Lib.hid (E2.out.sees hs)
  clear hs hS0
  have hS0 := hTT
  clear hTT
  refine wpH_take (i := 13) (v := .string (s ++ ⟨#[35]⟩ ++ R ++ G ++ B)) hB (by rfl) (by kernel_rfl) (fun _ _ _ _ _ h => h) (by rfl) hS0 (fun W hI => by clear hI; go_simp) ?_; (try simp only [Act.put, List.setIfInBounds_toArray, List.set_cons_zero, List.set_cons_succ])
  refine wpH_take (i := 14) (v := .string (s ++ ⟨#[35]⟩ ++ R ++ G ++ B)) hB (by rfl) (by kernel_rfl) (fun _ _ _ _ _ h => h) (by rfl) hS0 (fun W hI => by clear hI; go_simp) ?_; (try simp only [Act.put, List.setIfInBounds_toArray, List.set_cons_zero, List.set_cons_succ])
  refine wpH_end (by kernel_rfl) ?_
  clear hS0 hB
  go_wp2
  go_ret
  exact ⟨rfl, E3.out.s⟩
end Go.Proofs.YthcndmchlpohpaaGreatDoor

namespace Go.Proofs.YthcndmchlpohpaaGreatDoor
set_option linter.unusedVariables false
set_option linter.unusedSimpArgs false
open Go.RowKit Go.Shelf

theorem color_any (sg : UInt8) (k : Int) (i r g b : Nat) (hi : i < 256) (hr : r < 256) (hg : g < 256) (hb : b < 256) (w : World) (KI : ∀ W, Sees w W → Calls Tryz.prog 44 #[.int .i64 (i : Int)] W fun e w' => e = .returned (.string (strL (decN i))) ∧ Sees W w') :
    Calls Tryz.prog 29 #[.string (strL [sg]), .agg #[.int .i64 k, .int .u8 (i : Int), .int .u8 (r : Int), .int .u8 (g : Int), .int .u8 (b : Int)]] w fun e w' => e = .returned (.string (strL (tagC sg k i r g b))) ∧ Sees w w' := by
  have hs : (strL [sg]).size ≤ 1 := Nat.le_of_eq (strL_size _)
  unfold tagC
  by_cases h1 : k = 1
  · subst h1
    rw [if_pos rfl, show (i : Int).toNat = i from rfl]
    have q := color_one (strL [sg]) hs i r g b hi w KI
    rw [strL_app] at q
    exact q
  · rw [if_neg h1]
    by_cases h2 : k = 2
    · subst h2
      rw [if_pos rfl]
      have q := color_two (strL [sg]) hs i r g b hr hg hb w
      rw [show (⟨#[35]⟩ : ByteArray) = strL [35] from rfl, strL_app, strL_app, strL_app, strL_app] at q
      have e : [sg] ++ [35] ++ hexL r ++ hexL g ++ hexL b = sg :: 35 :: (hexL (r : Int).toNat ++ hexL (g : Int).toNat ++ hexL (b : Int).toNat) := by simp
      rw [e] at q
      exact q
    · rw [if_neg h2]
      exact color_none _ k i r g b h1 h2 w
theorem and_bit (n j : Nat) (hn : n < 256) (hj : j < 8) : (bits BinOp.and IntKind.u8 (n : Int) ((2 ^ j : Nat) : Int) != 0) = n.testBit j :=
  (show ∀ m : Fin 256, ∀ q : Fin 8, (bits BinOp.and IntKind.u8 ((m.val : Nat) : Int) ((2 ^ q.val : Nat) : Int) != 0) = m.val.testBit q.val by decide +kernel) ⟨n, hn⟩ ⟨j, hj⟩
end Go.Proofs.YthcndmchlpohpaaGreatDoor

namespace Go.Proofs.YthcndmchlpohpaaGreatDoor
set_option linter.unusedVariables false
set_option linter.unusedSimpArgs false
open Go.RowKit Go.Shelf
attribute [local go_sem] Oper.semAt_some

def flagTo (n j : Nat) : List UInt8 := (List.range j).flatMap fun i => if n.testBit i then (letL[i]?).toList else []
theorem flagTo_succ (n j : Nat) : flagTo n (j + 1) = flagTo n j ++ (if n.testBit j then (letL[j]?).toList else []) := by unfold flagTo; rw [List.range_succ, List.flatMap_append]; simp
theorem flagTo_len (n : Nat) : ∀ j, (flagTo n j).length ≤ j
  | 0 => Nat.le_refl _
  | j + 1 => by
    rw [flagTo_succ, List.length_append]
    have := flagTo_len n j
    split
    · cases letL[j]? <;> simp <;> omega
    · simp; omega
theorem decN_len (n : Nat) : (decN n).length ≤ 3 := by unfold decN; split <;> (try split) <;> simp
theorem tagC_len (sg : UInt8) (k i r g b : Int) : (tagC sg k i r g b).length ≤ 8 := by
  unfold tagC
  split
  · have := decN_len i.toNat
    simp only [List.length_cons]
    omega
  · split
    · simp [hexL]
    · simp
def PnW (W : World) (p : Nat) (k0 : Int) (i0 r0 g0 b0 : Nat) (k1 : Int) (i1 r1 g1 b1 fl : Nat) : Prop := W.heap[p]? = some (.cells #[.int .i64 k0, .int .u8 (i0 : Int), .int .u8 (r0 : Int), .int .u8 (g0 : Int), .int .u8 (b0 : Int), .int .i64 k1, .int .u8 (i1 : Int), .int .u8 (r1 : Int), .int .u8 (g1 : Int), .int .u8 (b1 : Int), .int .u8 (fl : Int)] 40 (0, 0))
structure TgM (w : World) (p : Nat) (k0 : Int) (i0 r0 g0 b0 : Nat) (k1 : Int) (i1 r1 g1 b1 fl : Nat) (W : World) : Prop where
  s : Sees w W
  p : PnW W p k0 i0 r0 g0 b0 k1 i1 r1 g1 b1 fl
theorem TgM.sees {w W W' : World} {p : Nat} {k0 : Int} {i0 r0 g0 b0 : Nat} {k1 : Int} {i1 r1 g1 b1 fl : Nat} (h : TgM w p k0 i0 r0 g0 b0 k1 i1 r1 g1 b1 fl W) (hs : Sees W W') : TgM w p k0 i0 r0 g0 b0 k1 i1 r1 g1 b1 fl W' := by
  refine ⟨h.s.trans hs, ?_⟩
  have h2 := h.p
  unfold PnW at *
  rw [hs.block _ (Array.getElem?_eq_some_iff.1 h2).1]; exact h2
theorem TgM.c {w W : World} {p : Nat} {k0 : Int} {i0 r0 g0 b0 : Nat} {k1 : Int} {i1 r1 g1 b1 fl : Nat} (h : TgM w p k0 i0 r0 g0 b0 k1 i1 r1 g1 b1 fl W) : W.cell? ⟨p, 0, none⟩ = some (.int .i64 k0) ∧ W.cell? ⟨p, 1, none⟩ = some (.int .u8 (i0 : Int)) ∧ W.cell? ⟨p, 2, none⟩ = some (.int .u8 (r0 : Int)) ∧ W.cell? ⟨p, 3, none⟩ = some (.int .u8 (g0 : Int)) ∧ W.cell? ⟨p, 4, none⟩ = some (.int .u8 (b0 : Int)) ∧ W.cell? ⟨p, 5, none⟩ = some (.int .i64 k1) ∧ W.cell? ⟨p, 6, none⟩ = some (.int .u8 (i1 : Int)) ∧ W.cell? ⟨p, 7, none⟩ = some (.int .u8 (r1 : Int)) ∧ W.cell? ⟨p, 8, none⟩ = some (.int .u8 (g1 : Int)) ∧ W.cell? ⟨p, 9, none⟩ = some (.int .u8 (b1 : Int)) ∧ W.cell? ⟨p, 10, none⟩ = some (.int .u8 (fl : Int)) :=
  ⟨by rw [cell_of_row _ _ _ _ _ _ h.p]; rfl, by rw [cell_of_row _ _ _ _ _ _ h.p]; rfl, by rw [cell_of_row _ _ _ _ _ _ h.p]; rfl, by rw [cell_of_row _ _ _ _ _ _ h.p]; rfl, by rw [cell_of_row _ _ _ _ _ _ h.p]; rfl, by rw [cell_of_row _ _ _ _ _ _ h.p]; rfl, by rw [cell_of_row _ _ _ _ _ _ h.p]; rfl, by rw [cell_of_row _ _ _ _ _ _ h.p]; rfl, by rw [cell_of_row _ _ _ _ _ _ h.p]; rfl, by rw [cell_of_row _ _ _ _ _ _ h.p]; rfl, by rw [cell_of_row _ _ _ _ _ _ h.p]; rfl⟩
set_option maxHeartbeats 4000000 in
theorem tags_ok (k0 : Int) (i0 r0 g0 b0 : Nat) (k1 : Int) (i1 r1 g1 b1 fl : Nat) (hi0 : i0 < 256) (hr0 : r0 < 256) (hg0 : g0 < 256) (hb0 : b0 < 256) (hi1 : i1 < 256) (hr1 : r1 < 256) (hg1 : g1 < 256) (hb1 : b1 < 256) (hfl : fl < 256) (hv : vPen k0 i0 r0 g0 b0 k1 i1 r1 g1 b1 = true) (w : World) (KI : ∀ n : Nat, n < 256 → ∀ W, Sees w W → Calls Tryz.prog 44 #[.int .i64 (n : Int)] W fun e w' => e = .returned (.string (strL (decN n))) ∧ Sees W w') :
    Calls Tryz.prog 16 #[.agg #[.int .i64 k0, .int .u8 (i0 : Int), .int .u8 (r0 : Int), .int .u8 (g0 : Int), .int .u8 (b0 : Int), .int .i64 k1, .int .u8 (i1 : Int), .int .u8 (r1 : Int), .int .u8 (g1 : Int), .int .u8 (b1 : Int), .int .u8 (fl : Int)]] w fun e w' => e = .returned (.string (strL (flagTo fl 8 ++ tagC 43 k0 i0 r0 g0 b0 ++ tagC 45 k1 i1 r1 g1 b1))) ∧ Sees w w' := by
  have KV : Hid (∀ W, Calls Tryz.prog 15 #[.agg #[.int .i64 k0, .int .u8 (i0 : Int), .int .u8 (r0 : Int), .int .u8 (g0 : Int), .int .u8 (b0 : Int), .int .i64 k1, .int .u8 (i1 : Int), .int .u8 (r1 : Int), .int .u8 (g1 : Int), .int .u8 (b1 : Int), .int .u8 (fl : Int)]] W fun e w' => e = .returned (.bool true) ∧ Sees W w') := fun W => by
    have q := penValid_any k0 i0 r0 g0 b0 k1 i1 r1 g1 b1 fl W
    rw [hv] at q
    exact q
  have KA := Lib.hid (fun W (hs : Sees w W) => color_any 43 k0 i0 r0 g0 b0 hi0 hr0 hg0 hb0 W (fun W' hs' => KI i0 hi0 W' (hs.trans hs')))
  have KB := Lib.hid (fun W (hs : Sees w W) => color_any 45 k1 i1 r1 g1 b1 hi1 hr1 hg1 hb1 W (fun W' hs' => KI i1 hi1 W' (hs.trans hs')))
  have HFL := Lib.hid hfl
  clear KI hv hi0 hr0 hg0 hb0 hi1 hr1 hg1 hb1 hfl
  go_enter Tryz.func16, Tryz.ntmps16
  go_upto_region 1 with fail
  refine wp_world fun W1 hW1 => ?_
  obtain ⟨p, hp⟩ : ∃ p, p = w.heap.size := ⟨_, rfl⟩
  have M1 : Hid (TgM w p k0 i0 r0 g0 b0 k1 i1 r1 g1 b1 fl W1) := ⟨by subst hW1; exact (Sees.refl w).alloc _, by subst hW1; rw [hp]; exact heap_alloc_new w _⟩
  rw [← hp]
  obtain ⟨q0, q1, q2, q3, q4, q5, q6, q7, q8, q9, q10⟩ := M1.out.c
  clear hW1 hp
  go_wp2_with fail
  refine (KV.out W1).mono ?_
  rintro e w2 ⟨rfl, hs⟩
  have M2 := Lib.hid (M1.out.sees hs)
  clear hs M1 q0 q1 q2 q3 q4 q5 q6 q7 q8 q9 q10
  go_wp2
  go_loopw [3, 8] (fun u v W => ∃ j : Nat, j ≤ 8 ∧ u = .string (strL (flagTo fl j)) ∧ v = .int .i64 (j : Int) ∧ TgM w p k0 i0 r0 g0 b0 k1 i1 r1 g1 b1 fl W) (fun _ v _ => 8 - (intOf v).toNat)
  case atStart => exact ⟨0, by omega, rfl, rfl, M2.out⟩
  case round =>
    obtain ⟨j, hj, rfl, rfl, hM⟩ := hrel
    have M := Lib.hid hM
    clear hM M2
    by_cases hj8 : j < 8
    · have hbit := and_bit fl j HFL.out hj8
      have hst := flagTo_succ fl j
      have hlen := flagTo_len fl j
      have hsz : (strL (flagTo fl j)).size + 1 ≤ 9223372036854775807 := by rw [strL_size]; omega
      obtain ⟨S, hS⟩ : ∃ S, S = strL (flagTo fl j) := ⟨_, rfl⟩
      rw [← hS] at hsz ⊢
      have HS := Lib.hid hS
      have HST := Lib.hid hst
      clear hS hst hlen
      obtain ⟨T, hT⟩ : ∃ T, T = fl.testBit j := ⟨_, rfl⟩
      rw [← hT] at hbit
      have HT := Lib.hid hT
      clear hT
      rcases (show j = 0 ∨ j = 1 ∨ j = 2 ∨ j = 3 ∨ j = 4 ∨ j = 5 ∨ j = 6 ∨ j = 7 by omega) with rfl | rfl | rfl | rfl | rfl | rfl | rfl | rfl
      · have hb : (bits BinOp.and IntKind.u8 (fl : Int) 1 != 0) = T := hbit
        clear hbit
        have kW : IntKind.u8.wrap 1 = 1 := by decide
        go_upto_region 7 with fail
        refine wpH_go (fun _ => False) 6 (by kernel_rfl) (by kernel_rfl) (by rfl) (fun hB v0 hs9 => ?_)
        have E0 := Lib.hid (M.out.sees hs9)
        clear hs9
        have hS0 : Keeps (fun _ => False) v0 v0 := Keeps.refl _ v0
        refine wpH_take (i := 0) (v := .pointer (some ⟨p, 10, none⟩)) hB (by rfl) (by kernel_rfl) (fun _ _ _ _ _ h => h) (by rfl) hS0 (fun W hI => by clear hI; go_simp) ?_; (try simp only [Act.put, List.setIfInBounds_toArray, List.set_cons_zero, List.set_cons_succ])
        refine wpH_take (i := 1) (v := .int .u8 (fl : Int)) hB (by rfl) (by kernel_rfl) (fun _ _ _ _ _ h => h) (by rfl) hS0 (fun W hI => by obtain ⟨q0, q1, q2, q3, q4, q5, q6, q7, q8, q9, q10⟩ := (E0.out.sees (hI.sees_end (fun _ _ h => h))).c; go_simp) ?_; (try simp only [Act.put, List.setIfInBounds_toArray, List.set_cons_zero, List.set_cons_succ])
        refine wpH_take (i := 2) (v := .int .i64 0) hB (by rfl) (by kernel_rfl) (fun _ _ _ _ _ h => h) (by rfl) hS0 (fun W hI => by clear hI; go_simp) ?_; (try simp only [Act.put, List.setIfInBounds_toArray, List.set_cons_zero, List.set_cons_succ])
        refine wpH_take (i := 3) (v := .int .u8 1) hB (by rfl) (by kernel_rfl) (fun _ _ _ _ _ h => h) (by rfl) hS0 (fun W hI => by clear hI; go_simp) ?_; (try simp only [Act.put, List.setIfInBounds_toArray, List.set_cons_zero, List.set_cons_succ])
        refine wpH_take (i := 4) (v := .int .u8 (bits BinOp.and IntKind.u8 (fl : Int) 1)) hB (by rfl) (by kernel_rfl) (fun _ _ _ _ _ h => h) (by rfl) hS0 (fun W hI => by clear hI; go_simp) ?_; (try simp only [Act.put, List.setIfInBounds_toArray, List.set_cons_zero, List.set_cons_succ])
        refine wpH_take (i := 5) (v := .bool T) hB (by rfl) (by kernel_rfl) (fun _ _ _ _ _ h => h) (by rfl) hS0 (fun W hI => by clear hI; go_simp) ?_; (try simp only [Act.put, List.setIfInBounds_toArray, List.set_cons_zero, List.set_cons_succ])
        refine wpH_end (by kernel_rfl) ?_
        clear hS0 hB
        cases T
        · have e : strL (flagTo fl 1) = S := by rw [HST.out, ← HT.out, HS.out]; simp
          go_wp2
          have hfin : ∃ j' : Nat, j' ≤ 8 ∧ Value.string S = .string (strL (flagTo fl j')) ∧ Value.int .i64 1 = .int .i64 (j' : Int) ∧ TgM w p k0 i0 r0 g0 b0 k1 i1 r1 g1 b1 fl _ := ⟨1, by omega, by rw [e], rfl, E0.out⟩
          go_roundw
          case rel => first | exact hfin | ((repeat apply Exists.intro); exact ⟨hfin, rfl⟩)
          case measure => simp [intOf]
        · have e : strL (flagTo fl 1) = S ++ ⟨#[98]⟩ := by rw [HST.out, ← HT.out, HS.out]; rw [show (⟨#[98]⟩ : ByteArray) = strL [98] from rfl, strL_app]; rfl
          go_wp2
          exact ⟨⟨1, by omega, by rw [e]; rfl, rfl, E0.out⟩, by simp [intOf]⟩
      · have hb : (bits BinOp.and IntKind.u8 (fl : Int) 2 != 0) = T := hbit
        clear hbit
        have kW : IntKind.u8.wrap 2 = 2 := by decide
        go_upto_region 7 with fail
        refine wpH_go (fun _ => False) 6 (by kernel_rfl) (by kernel_rfl) (by rfl) (fun hB v0 hs9 => ?_)
        have E0 := Lib.hid (M.out.sees hs9)
        clear hs9
        have hS0 : Keeps (fun _ => False) v0 v0 := Keeps.refl _ v0
        refine wpH_take (i := 0) (v := .pointer (some ⟨p, 10, none⟩)) hB (by rfl) (by kernel_rfl) (fun _ _ _ _ _ h => h) (by rfl) hS0 (fun W hI => by clear hI; go_simp) ?_; (try simp only [Act.put, List.setIfInBounds_toArray, List.set_cons_zero, List.set_cons_succ])
        refine wpH_take (i := 1) (v := .int .u8 (fl : Int)) hB (by rfl) (by kernel_rfl) (fun _ _ _ _ _ h => h) (by rfl) hS0 (fun W hI => by obtain ⟨q0, q1, q2, q3, q4, q5, q6, q7, q8, q9, q10⟩ := (E0.out.sees (hI.sees_end (fun _ _ h => h))).c; go_simp) ?_; (try simp only [Act.put, List.setIfInBounds_toArray, List.set_cons_zero, List.set_cons_succ])
        refine wpH_take (i := 2) (v := .int .i64 1) hB (by rfl) (by kernel_rfl) (fun _ _ _ _ _ h => h) (by rfl) hS0 (fun W hI => by clear hI; go_simp) ?_; (try simp only [Act.put, List.setIfInBounds_toArray, List.set_cons_zero, List.set_cons_succ])
        refine wpH_take (i := 3) (v := .int .u8 2) hB (by rfl) (by kernel_rfl) (fun _ _ _ _ _ h => h) (by rfl) hS0 (fun W hI => by clear hI; go_simp) ?_; (try simp only [Act.put, List.setIfInBounds_toArray, List.set_cons_zero, List.set_cons_succ])
        refine wpH_take (i := 4) (v := .int .u8 (bits BinOp.and IntKind.u8 (fl : Int) 2)) hB (by rfl) (by kernel_rfl) (fun _ _ _ _ _ h => h) (by rfl) hS0 (fun W hI => by clear hI; go_simp) ?_; (try simp only [Act.put, List.setIfInBounds_toArray, List.set_cons_zero, List.set_cons_succ])
        refine wpH_take (i := 5) (v := .bool T) hB (by rfl) (by kernel_rfl) (fun _ _ _ _ _ h => h) (by rfl) hS0 (fun W hI => by clear hI; go_simp) ?_; (try simp only [Act.put, List.setIfInBounds_toArray, List.set_cons_zero, List.set_cons_succ])
        refine wpH_end (by kernel_rfl) ?_
        clear hS0 hB
        cases T
        · have e : strL (flagTo fl 2) = S := by rw [HST.out, ← HT.out, HS.out]; simp
          go_wp2
          have hfin : ∃ j' : Nat, j' ≤ 8 ∧ Value.string S = .string (strL (flagTo fl j')) ∧ Value.int .i64 2 = .int .i64 (j' : Int) ∧ TgM w p k0 i0 r0 g0 b0 k1 i1 r1 g1 b1 fl _ := ⟨2, by omega, by rw [e], rfl, E0.out⟩
          go_roundw
          case rel => first | exact hfin | ((repeat apply Exists.intro); exact ⟨hfin, rfl⟩)
          case measure => simp [intOf]
        · have e : strL (flagTo fl 2) = S ++ ⟨#[102]⟩ := by rw [HST.out, ← HT.out, HS.out]; rw [show (⟨#[102]⟩ : ByteArray) = strL [102] from rfl, strL_app]; rfl
          go_wp2
          exact ⟨⟨2, by omega, by rw [e]; rfl, rfl, E0.out⟩, by simp [intOf]⟩
      · have hb : (bits BinOp.and IntKind.u8 (fl : Int) 4 != 0) = T := hbit
        clear hbit
        have kW : IntKind.u8.wrap 4 = 4 := by decide
        go_upto_region 7 with fail
        refine wpH_go (fun _ => False) 6 (by kernel_rfl) (by kernel_rfl) (by rfl) (fun hB v0 hs9 => ?_)
        have E0 := Lib.hid (M.out.sees hs9)
        clear hs9
        have hS0 : Keeps (fun _ => False) v0 v0 := Keeps.refl _ v0
        refine wpH_take (i := 0) (v := .pointer (some ⟨p, 10, none⟩)) hB (by rfl) (by kernel_rfl) (fun _ _ _ _ _ h => h) (by rfl) hS0 (fun W hI => by clear hI; go_simp) ?_; (try simp only [Act.put, List.setIfInBounds_toArray, List.set_cons_zero, List.set_cons_succ])
        refine wpH_take (i := 1) (v := .int .u8 (fl : Int)) hB (by rfl) (by kernel_rfl) (fun _ _ _ _ _ h => h) (by rfl) hS0 (fun W hI => by obtain ⟨q0, q1, q2, q3, q4, q5, q6, q7, q8, q9, q10⟩ := (E0.out.sees (hI.sees_end (fun _ _ h => h))).c; go_simp) ?_; (try simp only [Act.put, List.setIfInBounds_toArray, List.set_cons_zero, List.set_cons_succ])
        refine wpH_take (i := 2) (v := .int .i64 2) hB (by rfl) (by kernel_rfl) (fun _ _ _ _ _ h => h) (by rfl) hS0 (fun W hI => by clear hI; go_simp) ?_; (try simp only [Act.put, List.setIfInBounds_toArray, List.set_cons_zero, List.set_cons_succ])
        refine wpH_take (i := 3) (v := .int .u8 4) hB (by rfl) (by kernel_rfl) (fun _ _ _ _ _ h => h) (by rfl) hS0 (fun W hI => by clear hI; go_simp) ?_; (try simp only [Act.put, List.setIfInBounds_toArray, List.set_cons_zero, List.set_cons_succ])
        refine wpH_take (i := 4) (v := .int .u8 (bits BinOp.and IntKind.u8 (fl : Int) 4)) hB (by rfl) (by kernel_rfl) (fun _ _ _ _ _ h => h) (by rfl) hS0 (fun W hI => by clear hI; go_simp) ?_; (try simp only [Act.put, List.setIfInBounds_toArray, List.set_cons_zero, List.set_cons_succ])
        refine wpH_take (i := 5) (v := .bool T) hB (by rfl) (by kernel_rfl) (fun _ _ _ _ _ h => h) (by rfl) hS0 (fun W hI => by clear hI; go_simp) ?_; (try simp only [Act.put, List.setIfInBounds_toArray, List.set_cons_zero, List.set_cons_succ])
        refine wpH_end (by kernel_rfl) ?_
        clear hS0 hB
        cases T
        · have e : strL (flagTo fl 3) = S := by rw [HST.out, ← HT.out, HS.out]; simp
          go_wp2
          have hfin : ∃ j' : Nat, j' ≤ 8 ∧ Value.string S = .string (strL (flagTo fl j')) ∧ Value.int .i64 3 = .int .i64 (j' : Int) ∧ TgM w p k0 i0 r0 g0 b0 k1 i1 r1 g1 b1 fl _ := ⟨3, by omega, by rw [e], rfl, E0.out⟩
          go_roundw
          case rel => first | exact hfin | ((repeat apply Exists.intro); exact ⟨hfin, rfl⟩)
          case measure => simp [intOf]
        · have e : strL (flagTo fl 3) = S ++ ⟨#[105]⟩ := by rw [HST.out, ← HT.out, HS.out]; rw [show (⟨#[105]⟩ : ByteArray) = strL [105] from rfl, strL_app]; rfl
          go_wp2
          exact ⟨⟨3, by omega, by rw [e]; rfl, rfl, E0.out⟩, by simp [intOf]⟩
      · have hb : (bits BinOp.and IntKind.u8 (fl : Int) 8 != 0) = T := hbit
        clear hbit
        have kW : IntKind.u8.wrap 8 = 8 := by decide
        go_upto_region 7 with fail
        refine wpH_go (fun _ => False) 6 (by kernel_rfl) (by kernel_rfl) (by rfl) (fun hB v0 hs9 => ?_)
        have E0 := Lib.hid (M.out.sees hs9)
        clear hs9
        have hS0 : Keeps (fun _ => False) v0 v0 := Keeps.refl _ v0
        refine wpH_take (i := 0) (v := .pointer (some ⟨p, 10, none⟩)) hB (by rfl) (by kernel_rfl) (fun _ _ _ _ _ h => h) (by rfl) hS0 (fun W hI => by clear hI; go_simp) ?_; (try simp only [Act.put, List.setIfInBounds_toArray, List.set_cons_zero, List.set_cons_succ])
        refine wpH_take (i := 1) (v := .int .u8 (fl : Int)) hB (by rfl) (by kernel_rfl) (fun _ _ _ _ _ h => h) (by rfl) hS0 (fun W hI => by obtain ⟨q0, q1, q2, q3, q4, q5, q6, q7, q8, q9, q10⟩ := (E0.out.sees (hI.sees_end (fun _ _ h => h))).c; go_simp) ?_; (try simp only [Act.put, List.setIfInBounds_toArray, List.set_cons_zero, List.set_cons_succ])
        refine wpH_take (i := 2) (v := .int .i64 3) hB (by rfl) (by kernel_rfl) (fun _ _ _ _ _ h => h) (by rfl) hS0 (fun W hI => by clear hI; go_simp) ?_; (try simp only [Act.put, List.setIfInBounds_toArray, List.set_cons_zero, List.set_cons_succ])
        refine wpH_take (i := 3) (v := .int .u8 8) hB (by rfl) (by kernel_rfl) (fun _ _ _ _ _ h => h) (by rfl) hS0 (fun W hI => by clear hI; go_simp) ?_; (try simp only [Act.put, List.setIfInBounds_toArray, List.set_cons_zero, List.set_cons_succ])
        refine wpH_take (i := 4) (v := .int .u8 (bits BinOp.and IntKind.u8 (fl : Int) 8)) hB (by rfl) (by kernel_rfl) (fun _ _ _ _ _ h => h) (by rfl) hS0 (fun W hI => by clear hI; go_simp) ?_; (try simp only [Act.put, List.setIfInBounds_toArray, List.set_cons_zero, List.set_cons_succ])
        refine wpH_take (i := 5) (v := .bool T) hB (by rfl) (by kernel_rfl) (fun _ _ _ _ _ h => h) (by rfl) hS0 (fun W hI => by clear hI; go_simp) ?_; (try simp only [Act.put, List.setIfInBounds_toArray, List.set_cons_zero, List.set_cons_succ])
        refine wpH_end (by kernel_rfl) ?_
        clear hS0 hB
        cases T
        · have e : strL (flagTo fl 4) = S := by rw [HST.out, ← HT.out, HS.out]; simp
          go_wp2
          have hfin : ∃ j' : Nat, j' ≤ 8 ∧ Value.string S = .string (strL (flagTo fl j')) ∧ Value.int .i64 4 = .int .i64 (j' : Int) ∧ TgM w p k0 i0 r0 g0 b0 k1 i1 r1 g1 b1 fl _ := ⟨4, by omega, by rw [e], rfl, E0.out⟩
          go_roundw
          case rel => first | exact hfin | ((repeat apply Exists.intro); exact ⟨hfin, rfl⟩)
          case measure => simp [intOf]
        · have e : strL (flagTo fl 4) = S ++ ⟨#[117]⟩ := by rw [HST.out, ← HT.out, HS.out]; rw [show (⟨#[117]⟩ : ByteArray) = strL [117] from rfl, strL_app]; rfl
          go_wp2
          exact ⟨⟨4, by omega, by rw [e]; rfl, rfl, E0.out⟩, by simp [intOf]⟩
      · have hb : (bits BinOp.and IntKind.u8 (fl : Int) 16 != 0) = T := hbit
        clear hbit
        have kW : IntKind.u8.wrap 16 = 16 := by decide
        go_upto_region 7 with fail
        refine wpH_go (fun _ => False) 6 (by kernel_rfl) (by kernel_rfl) (by rfl) (fun hB v0 hs9 => ?_)
        have E0 := Lib.hid (M.out.sees hs9)
        clear hs9
        have hS0 : Keeps (fun _ => False) v0 v0 := Keeps.refl _ v0
        refine wpH_take (i := 0) (v := .pointer (some ⟨p, 10, none⟩)) hB (by rfl) (by kernel_rfl) (fun _ _ _ _ _ h => h) (by rfl) hS0 (fun W hI => by clear hI; go_simp) ?_; (try simp only [Act.put, List.setIfInBounds_toArray, List.set_cons_zero, List.set_cons_succ])
        refine wpH_take (i := 1) (v := .int .u8 (fl : Int)) hB (by rfl) (by kernel_rfl) (fun _ _ _ _ _ h => h) (by rfl) hS0 (fun W hI => by obtain ⟨q0, q1, q2, q3, q4, q5, q6, q7, q8, q9, q10⟩ := (E0.out.sees (hI.sees_end (fun _ _ h => h))).c; go_simp) ?_; (try simp only [Act.put, List.setIfInBounds_toArray, List.set_cons_zero, List.set_cons_succ])
        refine wpH_take (i := 2) (v := .int .i64 4) hB (by rfl) (by kernel_rfl) (fun _ _ _ _ _ h => h) (by rfl) hS0 (fun W hI => by clear hI; go_simp) ?_; (try simp only [Act.put, List.setIfInBounds_toArray, List.set_cons_zero, List.set_cons_succ])
        refine wpH_take (i := 3) (v := .int .u8 16) hB (by rfl) (by kernel_rfl) (fun _ _ _ _ _ h => h) (by rfl) hS0 (fun W hI => by clear hI; go_simp) ?_; (try simp only [Act.put, List.setIfInBounds_toArray, List.set_cons_zero, List.set_cons_succ])
        refine wpH_take (i := 4) (v := .int .u8 (bits BinOp.and IntKind.u8 (fl : Int) 16)) hB (by rfl) (by kernel_rfl) (fun _ _ _ _ _ h => h) (by rfl) hS0 (fun W hI => by clear hI; go_simp) ?_; (try simp only [Act.put, List.setIfInBounds_toArray, List.set_cons_zero, List.set_cons_succ])
        refine wpH_take (i := 5) (v := .bool T) hB (by rfl) (by kernel_rfl) (fun _ _ _ _ _ h => h) (by rfl) hS0 (fun W hI => by clear hI; go_simp) ?_; (try simp only [Act.put, List.setIfInBounds_toArray, List.set_cons_zero, List.set_cons_succ])
        refine wpH_end (by kernel_rfl) ?_
        clear hS0 hB
        cases T
        · have e : strL (flagTo fl 5) = S := by rw [HST.out, ← HT.out, HS.out]; simp
          go_wp2
          have hfin : ∃ j' : Nat, j' ≤ 8 ∧ Value.string S = .string (strL (flagTo fl j')) ∧ Value.int .i64 5 = .int .i64 (j' : Int) ∧ TgM w p k0 i0 r0 g0 b0 k1 i1 r1 g1 b1 fl _ := ⟨5, by omega, by rw [e], rfl, E0.out⟩
          go_roundw
          case rel => first | exact hfin | ((repeat apply Exists.intro); exact ⟨hfin, rfl⟩)
          case measure => simp [intOf]
        · have e : strL (flagTo fl 5) = S ++ ⟨#[108]⟩ := by rw [HST.out, ← HT.out, HS.out]; rw [show (⟨#[108]⟩ : ByteArray) = strL [108] from rfl, strL_app]; rfl
          go_wp2
          exact ⟨⟨5, by omega, by rw [e]; rfl, rfl, E0.out⟩, by simp [intOf]⟩
      · have hb : (bits BinOp.and IntKind.u8 (fl : Int) 32 != 0) = T := hbit
        clear hbit
        have kW : IntKind.u8.wrap 32 = 32 := by decide
        go_upto_region 7 with fail
        refine wpH_go (fun _ => False) 6 (by kernel_rfl) (by kernel_rfl) (by rfl) (fun hB v0 hs9 => ?_)
        have E0 := Lib.hid (M.out.sees hs9)
        clear hs9
        have hS0 : Keeps (fun _ => False) v0 v0 := Keeps.refl _ v0
        refine wpH_take (i := 0) (v := .pointer (some ⟨p, 10, none⟩)) hB (by rfl) (by kernel_rfl) (fun _ _ _ _ _ h => h) (by rfl) hS0 (fun W hI => by clear hI; go_simp) ?_; (try simp only [Act.put, List.setIfInBounds_toArray, List.set_cons_zero, List.set_cons_succ])
        refine wpH_take (i := 1) (v := .int .u8 (fl : Int)) hB (by rfl) (by kernel_rfl) (fun _ _ _ _ _ h => h) (by rfl) hS0 (fun W hI => by obtain ⟨q0, q1, q2, q3, q4, q5, q6, q7, q8, q9, q10⟩ := (E0.out.sees (hI.sees_end (fun _ _ h => h))).c; go_simp) ?_; (try simp only [Act.put, List.setIfInBounds_toArray, List.set_cons_zero, List.set_cons_succ])
        refine wpH_take (i := 2) (v := .int .i64 5) hB (by rfl) (by kernel_rfl) (fun _ _ _ _ _ h => h) (by rfl) hS0 (fun W hI => by clear hI; go_simp) ?_; (try simp only [Act.put, List.setIfInBounds_toArray, List.set_cons_zero, List.set_cons_succ])
        refine wpH_take (i := 3) (v := .int .u8 32) hB (by rfl) (by kernel_rfl) (fun _ _ _ _ _ h => h) (by rfl) hS0 (fun W hI => by clear hI; go_simp) ?_; (try simp only [Act.put, List.setIfInBounds_toArray, List.set_cons_zero, List.set_cons_succ])
        refine wpH_take (i := 4) (v := .int .u8 (bits BinOp.and IntKind.u8 (fl : Int) 32)) hB (by rfl) (by kernel_rfl) (fun _ _ _ _ _ h => h) (by rfl) hS0 (fun W hI => by clear hI; go_simp) ?_; (try simp only [Act.put, List.setIfInBounds_toArray, List.set_cons_zero, List.set_cons_succ])
        refine wpH_take (i := 5) (v := .bool T) hB (by rfl) (by kernel_rfl) (fun _ _ _ _ _ h => h) (by rfl) hS0 (fun W hI => by clear hI; go_simp) ?_; (try simp only [Act.put, List.setIfInBounds_toArray, List.set_cons_zero, List.set_cons_succ])
        refine wpH_end (by kernel_rfl) ?_
        clear hS0 hB
        cases T
        · have e : strL (flagTo fl 6) = S := by rw [HST.out, ← HT.out, HS.out]; simp
          go_wp2
          have hfin : ∃ j' : Nat, j' ≤ 8 ∧ Value.string S = .string (strL (flagTo fl j')) ∧ Value.int .i64 6 = .int .i64 (j' : Int) ∧ TgM w p k0 i0 r0 g0 b0 k1 i1 r1 g1 b1 fl _ := ⟨6, by omega, by rw [e], rfl, E0.out⟩
          go_roundw
          case rel => first | exact hfin | ((repeat apply Exists.intro); exact ⟨hfin, rfl⟩)
          case measure => simp [intOf]
        · have e : strL (flagTo fl 6) = S ++ ⟨#[118]⟩ := by rw [HST.out, ← HT.out, HS.out]; rw [show (⟨#[118]⟩ : ByteArray) = strL [118] from rfl, strL_app]; rfl
          go_wp2
          exact ⟨⟨6, by omega, by rw [e]; rfl, rfl, E0.out⟩, by simp [intOf]⟩
      · have hb : (bits BinOp.and IntKind.u8 (fl : Int) 64 != 0) = T := hbit
        clear hbit
        have kW : IntKind.u8.wrap 64 = 64 := by decide
        go_upto_region 7 with fail
        refine wpH_go (fun _ => False) 6 (by kernel_rfl) (by kernel_rfl) (by rfl) (fun hB v0 hs9 => ?_)
        have E0 := Lib.hid (M.out.sees hs9)
        clear hs9
        have hS0 : Keeps (fun _ => False) v0 v0 := Keeps.refl _ v0
        refine wpH_take (i := 0) (v := .pointer (some ⟨p, 10, none⟩)) hB (by rfl) (by kernel_rfl) (fun _ _ _ _ _ h => h) (by rfl) hS0 (fun W hI => by clear hI; go_simp) ?_; (try simp only [Act.put, List.setIfInBounds_toArray, List.set_cons_zero, List.set_cons_succ])
        refine wpH_take (i := 1) (v := .int .u8 (fl : Int)) hB (by rfl) (by kernel_rfl) (fun _ _ _ _ _ h => h) (by rfl) hS0 (fun W hI => by obtain ⟨q0, q1, q2, q3, q4, q5, q6, q7, q8, q9, q10⟩ := (E0.out.sees (hI.sees_end (fun _ _ h => h))).c; go_simp) ?_; (try simp only [Act.put, List.setIfInBounds_toArray, List.set_cons_zero, List.set_cons_succ])
        refine wpH_take (i := 2) (v := .int .i64 6) hB (by rfl) (by kernel_rfl) (fun _ _ _ _ _ h => h) (by rfl) hS0 (fun W hI => by clear hI; go_simp) ?_; (try simp only [Act.put, List.setIfInBounds_toArray, List.set_cons_zero, List.set_cons_succ])
        refine wpH_take (i := 3) (v := .int .u8 64) hB (by rfl) (by kernel_rfl) (fun _ _ _ _ _ h => h) (by rfl) hS0 (fun W hI => by clear hI; go_simp) ?_; (try simp only [Act.put, List.setIfInBounds_toArray, List.set_cons_zero, List.set_cons_succ])
        refine wpH_take (i := 4) (v := .int .u8 (bits BinOp.and IntKind.u8 (fl : Int) 64)) hB (by rfl) (by kernel_rfl) (fun _ _ _ _ _ h => h) (by rfl) hS0 (fun W hI => by clear hI; go_simp) ?_; (try simp only [Act.put, List.setIfInBounds_toArray, List.set_cons_zero, List.set_cons_succ])
        refine wpH_take (i := 5) (v := .bool T) hB (by rfl) (by kernel_rfl) (fun _ _ _ _ _ h => h) (by rfl) hS0 (fun W hI => by clear hI; go_simp) ?_; (try simp only [Act.put, List.setIfInBounds_toArray, List.set_cons_zero, List.set_cons_succ])
        refine wpH_end (by kernel_rfl) ?_
        clear hS0 hB
        cases T
        · have e : strL (flagTo fl 7) = S := by rw [HST.out, ← HT.out, HS.out]; simp
          go_wp2
          have hfin : ∃ j' : Nat, j' ≤ 8 ∧ Value.string S = .string (strL (flagTo fl j')) ∧ Value.int .i64 7 = .int .i64 (j' : Int) ∧ TgM w p k0 i0 r0 g0 b0 k1 i1 r1 g1 b1 fl _ := ⟨7, by omega, by rw [e], rfl, E0.out⟩
          go_roundw
          case rel => first | exact hfin | ((repeat apply Exists.intro); exact ⟨hfin, rfl⟩)
          case measure => simp [intOf]
        · have e : strL (flagTo fl 7) = S ++ ⟨#[104]⟩ := by rw [HST.out, ← HT.out, HS.out]; rw [show (⟨#[104]⟩ : ByteArray) = strL [104] from rfl, strL_app]; rfl
          go_wp2
          exact ⟨⟨7, by omega, by rw [e]; rfl, rfl, E0.out⟩, by simp [intOf]⟩
      · have hb : (bits BinOp.and IntKind.u8 (fl : Int) 128 != 0) = T := hbit
        clear hbit
        have kW : IntKind.u8.wrap 128 = 128 := by decide
        go_upto_region 7 with fail
        refine wpH_go (fun _ => False) 6 (by kernel_rfl) (by kernel_rfl) (by rfl) (fun hB v0 hs9 => ?_)
        have E0 := Lib.hid (M.out.sees hs9)
        clear hs9
        have hS0 : Keeps (fun _ => False) v0 v0 := Keeps.refl _ v0
        refine wpH_take (i := 0) (v := .pointer (some ⟨p, 10, none⟩)) hB (by rfl) (by kernel_rfl) (fun _ _ _ _ _ h => h) (by rfl) hS0 (fun W hI => by clear hI; go_simp) ?_; (try simp only [Act.put, List.setIfInBounds_toArray, List.set_cons_zero, List.set_cons_succ])
        refine wpH_take (i := 1) (v := .int .u8 (fl : Int)) hB (by rfl) (by kernel_rfl) (fun _ _ _ _ _ h => h) (by rfl) hS0 (fun W hI => by obtain ⟨q0, q1, q2, q3, q4, q5, q6, q7, q8, q9, q10⟩ := (E0.out.sees (hI.sees_end (fun _ _ h => h))).c; go_simp) ?_; (try simp only [Act.put, List.setIfInBounds_toArray, List.set_cons_zero, List.set_cons_succ])
        refine wpH_take (i := 2) (v := .int .i64 7) hB (by rfl) (by kernel_rfl) (fun _ _ _ _ _ h => h) (by rfl) hS0 (fun W hI => by clear hI; go_simp) ?_; (try simp only [Act.put, List.setIfInBounds_toArray, List.set_cons_zero, List.set_cons_succ])
        refine wpH_take (i := 3) (v := .int .u8 128) hB (by rfl) (by kernel_rfl) (fun _ _ _ _ _ h => h) (by rfl) hS0 (fun W hI => by clear hI; go_simp) ?_; (try simp only [Act.put, List.setIfInBounds_toArray, List.set_cons_zero, List.set_cons_succ])
        refine wpH_take (i := 4) (v := .int .u8 (bits BinOp.and IntKind.u8 (fl : Int) 128)) hB (by rfl) (by kernel_rfl) (fun _ _ _ _ _ h => h) (by rfl) hS0 (fun W hI => by clear hI; go_simp) ?_; (try simp only [Act.put, List.setIfInBounds_toArray, List.set_cons_zero, List.set_cons_succ])
        refine wpH_take (i := 5) (v := .bool T) hB (by rfl) (by kernel_rfl) (fun _ _ _ _ _ h => h) (by rfl) hS0 (fun W hI => by clear hI; go_simp) ?_; (try simp only [Act.put, List.setIfInBounds_toArray, List.set_cons_zero, List.set_cons_succ])
        refine wpH_end (by kernel_rfl) ?_
        clear hS0 hB
        cases T
        · have e : strL (flagTo fl 8) = S := by rw [HST.out, ← HT.out, HS.out]; simp
          go_wp2
          have hfin : ∃ j' : Nat, j' ≤ 8 ∧ Value.string S = .string (strL (flagTo fl j')) ∧ Value.int .i64 8 = .int .i64 (j' : Int) ∧ TgM w p k0 i0 r0 g0 b0 k1 i1 r1 g1 b1 fl _ := ⟨8, by omega, by rw [e], rfl, E0.out⟩
          go_roundw
          case rel => first | exact hfin | ((repeat apply Exists.intro); exact ⟨hfin, rfl⟩)
          case measure => simp [intOf]
        · have e : strL (flagTo fl 8) = S ++ ⟨#[115]⟩ := by rw [HST.out, ← HT.out, HS.out]; rw [show (⟨#[115]⟩ : ByteArray) = strL [115] from rfl, strL_app]; rfl
          go_wp2
          exact ⟨⟨8, by omega, by rw [e]; rfl, rfl, E0.out⟩, by simp [intOf]⟩
    · have hj8' : ¬ (j : Int) < 8 := by omega
      have hj8'' : (8 : Int) ≤ (j : Int) := by omega
      obtain ⟨S, hS⟩ : ∃ S, S = strL (flagTo fl j) := ⟨_, rfl⟩
      have hSs : S.size ≤ 8 := by rw [hS, strL_size]; have := flagTo_len fl j; omega
      obtain ⟨A, hA⟩ : ∃ A, A = strL (tagC 43 k0 i0 r0 g0 b0) := ⟨_, rfl⟩
      have hAs : A.size ≤ 8 := by rw [hA, strL_size]; exact tagC_len _ _ _ _ _ _
      obtain ⟨B, hB⟩ : ∃ B, B = strL (tagC 45 k1 i1 r1 g1 b1) := ⟨_, rfl⟩
      have hBs : B.size ≤ 8 := by rw [hB, strL_size]; exact tagC_len _ _ _ _ _ _
      have hR : Hid (S ++ A ++ B = strL (flagTo fl 8 ++ tagC 43 k0 i0 r0 g0 b0 ++ tagC 45 k1 i1 r1 g1 b1)) := by
        unfold RowKit.Hid
        rw [hS, hA, hB, strL_app, strL_app, show j = 8 by omega]
      rw [← hA] at KA
      rw [← hB] at KB
      rw [← hS]
      have z1 : S.size + A.size ≤ 9223372036854775807 := by omega
      have y1 : (S ++ A).size ≤ 16 := by rw [ByteArray.size_append]; omega
      have z2 : (S ++ A).size + B.size ≤ 9223372036854775807 := by omega
      have z3 : S.size + A.size + B.size ≤ 9223372036854775807 := by omega
      clear hS hA hB hSs hAs hBs y1
      go_upto_region 10 with fail
      refine wpH_go (fun _ => False) 10 (by kernel_rfl) (by kernel_rfl) (by rfl) (fun hB v0 hs9 => ?_)
      have E0 := Lib.hid (M.out.sees hs9)
      clear hs9
      have hS0 : Keeps (fun _ => False) v0 v0 := Keeps.refl _ v0
      refine wpH_take (i := 0) (v := .string S) hB (by rfl) (by kernel_rfl) (fun _ _ _ _ _ h => h) (by rfl) hS0 (fun W hI => by clear hI; go_simp) ?_; (try simp only [Act.put, List.setIfInBounds_toArray, List.set_cons_zero, List.set_cons_succ])
      refine wpH_take (i := 1) (v := .pointer (some ⟨p, 0, none⟩)) hB (by rfl) (by kernel_rfl) (fun _ _ _ _ _ h => h) (by rfl) hS0 (fun W hI => by clear hI; go_simp) ?_; (try simp only [Act.put, List.setIfInBounds_toArray, List.set_cons_zero, List.set_cons_succ])
      refine wpH_take (i := 2) (v := .agg #[.int .i64 k0, .int .u8 (i0 : Int), .int .u8 (r0 : Int), .int .u8 (g0 : Int), .int .u8 (b0 : Int)]) hB (by rfl) (by kernel_rfl) (fun _ _ _ _ _ h => h) (by rfl) hS0 (fun W hI => by obtain ⟨q0, q1, q2, q3, q4, q5, q6, q7, q8, q9, q10⟩ := (E0.out.sees (hI.sees_end (fun _ _ h => h))).c; go_simp) ?_; (try simp only [Act.put, List.setIfInBounds_toArray, List.set_cons_zero, List.set_cons_succ])
      refine wpH_take (i := 5) (v := .pointer (some ⟨p, 5, none⟩)) hB (by rfl) (by kernel_rfl) (fun _ _ _ _ _ h => h) (by rfl) hS0 (fun W hI => by clear hI; go_simp) ?_; (try simp only [Act.put, List.setIfInBounds_toArray, List.set_cons_zero, List.set_cons_succ])
      refine wpH_take (i := 6) (v := .agg #[.int .i64 k1, .int .u8 (i1 : Int), .int .u8 (r1 : Int), .int .u8 (g1 : Int), .int .u8 (b1 : Int)]) hB (by rfl) (by kernel_rfl) (fun _ _ _ _ _ h => h) (by rfl) hS0 (fun W hI => by obtain ⟨q0, q1, q2, q3, q4, q5, q6, q7, q8, q9, q10⟩ := (E0.out.sees (hI.sees_end (fun _ _ h => h))).c; go_simp) ?_; (try simp only [Act.put, List.setIfInBounds_toArray, List.set_cons_zero, List.set_cons_succ])
      refine wpH_one (i := 3) (by kernel_rfl) (wpOp_enter (fn := 29) (args := #[.string ⟨#[43]⟩, .agg #[.int .i64 k0, .int .u8 (i0 : Int), .int .u8 (r0 : Int), .int .u8 (g0 : Int), .int .u8 (b0 : Int)]]) (by rfl) (by rfl) (by go_simp) ((KA.out v0 E0.out.s).mono ?_))
      rintro ee v1 ⟨rfl, hs⟩
      have hTT := hS0.trans (Keeps.of_sees hs)
      refine ⟨_, rfl, hTT, ?_⟩
      (try simp only [Act.put, List.setIfInBounds_toArray, List.set_cons_zero, List.set_cons_succ])
      have E1 := Lib.hid (E0.out.sees hs)
      clear hs hS0
      have hS0 := hTT
      clear hTT
      refine wpH_take (i := 4) (v := .string (S ++ A)) hB (by rfl) (by kernel_rfl) (fun _ _ _ _ _ h => h) (by rfl) hS0 (fun W hI => by clear hI; go_simp) ?_; (try simp only [Act.put, List.setIfInBounds_toArray, List.set_cons_zero, List.set_cons_succ])
      refine wpH_one (i := 7) (by kernel_rfl) (wpOp_enter (fn := 29) (args := #[.string ⟨#[45]⟩, .agg #[.int .i64 k1, .int .u8 (i1 : Int), .int .u8 (r1 : Int), .int .u8 (g1 : Int), .int .u8 (b1 : Int)]]) (by rfl) (by rfl) (by go_simp) ((KB.out v1 E1.out.s).mono ?_))
      rintro ee v2 ⟨rfl, hs⟩
      have hTT := hS0.trans (Keeps.of_sees hs)
      refine ⟨_, rfl, hTT, ?_⟩
      (try simp only [Act.put, List.setIfInBounds_toArray, List.set_cons_zero, List.set_cons_succ])
      have E2 := Lib.hid (E1.out.sees hs)
      clear hs hS0
      have hS0 := hTT
      clear hTT
      refine wpH_take (i := 8) (v := .string (S ++ A ++ B)) hB (by rfl) (by kernel_rfl) (fun _ _ _ _ _ h => h) (by rfl) hS0 (fun W hI => by clear hI; go_simp) ?_; (try simp only [Act.put, List.setIfInBounds_toArray, List.set_cons_zero, List.set_cons_succ])
      refine wpH_take (i := 9) (v := .string (S ++ A ++ B)) hB (by rfl) (by kernel_rfl) (fun _ _ _ _ _ h => h) (by rfl) hS0 (fun W hI => by clear hI; go_simp) ?_; (try simp only [Act.put, List.setIfInBounds_toArray, List.set_cons_zero, List.set_cons_succ])
      refine wpH_end (by kernel_rfl) ?_
      clear hS0 hB
      go_wp2
      go_ret
      exact ⟨by have q := hR.out; rw [List.append_assoc] at q; exact congrArg (fun x => Ending.returned (Value.string x)) q, E2.out.s⟩
set_option maxHeartbeats 1000000 in
theorem tags_bad (k0 : Int) (i0 r0 g0 b0 : Nat) (k1 : Int) (i1 r1 g1 b1 fl : Nat) (hv : vPen k0 i0 r0 g0 b0 k1 i1 r1 g1 b1 = false) (w : World) :
    Calls Tryz.prog 16 #[.agg #[.int .i64 k0, .int .u8 (i0 : Int), .int .u8 (r0 : Int), .int .u8 (g0 : Int), .int .u8 (b0 : Int), .int .i64 k1, .int .u8 (i1 : Int), .int .u8 (r1 : Int), .int .u8 (g1 : Int), .int .u8 (b1 : Int), .int .u8 (fl : Int)]] w fun e w' => e = .returned (.string ⟨#[]⟩) ∧ Sees w w' := by
  have KV : Hid (∀ W, Calls Tryz.prog 15 #[.agg #[.int .i64 k0, .int .u8 (i0 : Int), .int .u8 (r0 : Int), .int .u8 (g0 : Int), .int .u8 (b0 : Int), .int .i64 k1, .int .u8 (i1 : Int), .int .u8 (r1 : Int), .int .u8 (g1 : Int), .int .u8 (b1 : Int), .int .u8 (fl : Int)]] W fun e w' => e = .returned (.bool false) ∧ Sees W w') := fun W => by
    have q := penValid_any k0 i0 r0 g0 b0 k1 i1 r1 g1 b1 fl W
    rw [hv] at q
    exact q
  clear hv
  go_enter Tryz.func16, Tryz.ntmps16
  go_upto_region 1 with fail
  refine wp_world fun W1 hW1 => ?_
  obtain ⟨p, hp⟩ : ∃ p, p = w.heap.size := ⟨_, rfl⟩
  have M1 : Hid (TgM w p k0 i0 r0 g0 b0 k1 i1 r1 g1 b1 fl W1) := ⟨by subst hW1; exact (Sees.refl w).alloc _, by subst hW1; rw [hp]; exact heap_alloc_new w _⟩
  rw [← hp]
  obtain ⟨q0, q1, q2, q3, q4, q5, q6, q7, q8, q9, q10⟩ := M1.out.c
  clear hW1 hp
  go_wp2_with fail
  refine (KV.out W1).mono ?_
  rintro e w2 ⟨rfl, hs⟩
  have M2 := Lib.hid (M1.out.sees hs)
  clear hs M1 q0 q1 q2 q3 q4 q5 q6 q7 q8 q9 q10
  go_wp2
  go_ret
  exact ⟨rfl, M2.out.s⟩
theorem flagTo_all (n : Nat) : flagTo n 8 = flagL n := rfl
end Go.Proofs.YthcndmchlpohpaaGreatDoor
