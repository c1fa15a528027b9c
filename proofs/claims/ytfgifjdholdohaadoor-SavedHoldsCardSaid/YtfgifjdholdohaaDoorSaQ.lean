/- saved.Parse (23). No condition but a text's length. -/
import Derived.Test.YtfgifjdholdohaaDoorSaT
import Derived.Deep.Cut
import Derived.IntWalk
namespace Go.Proofs.YtfgifjdholdohaaDoor
set_option linter.unusedVariables false
set_option linter.unusedSimpArgs false
open Go.RowKit

/-- What Parse hands back: what has this text, or an error where nothing has. -/
def IsParse (t : List UInt8) (e : Ending) : Prop :=
  (∃ x : Sv, x.ok = true ∧ x.Fits ∧ x.text = t ∧ e = .returned (.tuple #[x.val, .int .i64 0])) ∨ ((∀ x : Sv, x.ok = true → x.Fits → x.text ≠ t) ∧ e = .returned (.tuple #[zSv.val, .int .i64 6]))
theorem text_pieces (x : Sv) : pieces 32 x.text = (x.nums x.word).map Lib.decDigits := pieces_text (by unfold Sv.nums; simp)
theorem parse_fail {t : List UInt8} {PL : List (List UInt8)} (hP : PL = pieces 32 t) (i : Nat) (p : List UInt8) (hp : PL[i]? = some p) (h : ∀ u, Lib.parseUintB 64 p = .ok u → i ≠ 3 ∧ 1000 < u) (x : Sv) (hx : x.ok = true) (hf : x.Fits) : x.text ≠ t := by
  rintro rfl
  rw [text_pieces] at hP
  subst hP
  rw [List.getElem?_map] at hp
  obtain ⟨⟨q0, q1, q2, q3⟩, ⟨q4, q5⟩, ⟨q6, q7⟩, q8, q9⟩ := cs_small hx
  have hw := word_lt hf (x.ok_pen hx)
  have b1 : bitN x.pend ≤ 1 := by unfold bitN; split <;> omega
  have b2 : bitN x.org ≤ 1 := by unfold bitN; split <;> omega
  have hall : ∀ (j n : Nat), (x.nums x.word)[j]? = some n → n < 18446744073709551616 ∧ (j ≠ 3 → n ≤ 1000) := by
    intro j n hj
    unfold Sv.nums at hj
    have hj8 : j < 8 := by have := (List.getElem?_eq_some_iff.1 hj).1; simpa using this
    match j, hj8 with
    | 0, _ => simp only [List.getElem?_cons_zero, Option.some.injEq] at hj; omega
    | 1, _ => simp only [List.getElem?_cons_succ, List.getElem?_cons_zero, Option.some.injEq] at hj; omega
    | 2, _ => simp only [List.getElem?_cons_succ, List.getElem?_cons_zero, Option.some.injEq] at hj; omega
    | 3, _ => simp only [List.getElem?_cons_succ, List.getElem?_cons_zero, Option.some.injEq] at hj; omega
    | 4, _ => simp only [List.getElem?_cons_succ, List.getElem?_cons_zero, Option.some.injEq] at hj; omega
    | 5, _ => simp only [List.getElem?_cons_succ, List.getElem?_cons_zero, Option.some.injEq] at hj; omega
    | 6, _ => simp only [List.getElem?_cons_succ, List.getElem?_cons_zero, Option.some.injEq] at hj; omega
    | 7, _ => simp only [List.getElem?_cons_succ, List.getElem?_cons_zero, Option.some.injEq] at hj; omega
  cases hn : (x.nums x.word)[i]? with
  | none => rw [hn] at hp; cases hp
  | some n =>
    rw [hn] at hp
    cases hp
    obtain ⟨h1, h2⟩ := hall i n hn
    obtain ⟨h3, h4⟩ := h n (dec_parseB h1)
    have := h2 h3
    omega
theorem parse_count {t : List UInt8} {PL : List (List UInt8)} (hP : PL = pieces 32 t) (h : PL.length ≠ 8) (x : Sv) : x.text ≠ t := by
  rintro rfl
  rw [text_pieces] at hP
  subst hP
  exact h (by unfold Sv.nums; rfl)
/-- The numbers of a text that is some thing's. -/
theorem parse_nums {t : List UInt8} {PL : List (List UInt8)} (hP : PL = pieces 32 t) {l : List Nat} (hl : ∀ (j : Nat) n, l[j]? = some n → ∃ p, PL[j]? = some p ∧ Lib.parseUintB 64 p = .ok n) (h8 : l.length = 8) {x : Sv} (hx : x.ok = true) (hf : x.Fits) (ht : x.text = t) : l = x.nums x.word := by
  subst ht
  rw [text_pieces] at hP
  subst hP
  have hw := word_lt hf (x.ok_pen hx)
  obtain ⟨⟨q0, q1, q2, q3⟩, ⟨q4, q5⟩, ⟨q6, q7⟩, q8, q9⟩ := cs_small hx
  have b1 : bitN x.pend ≤ 1 := by unfold bitN; split <;> omega
  have b2 : bitN x.org ≤ 1 := by unfold bitN; split <;> omega
  apply List.ext_getElem?
  intro j
  cases hj : l[j]? with
  | none =>
    have := List.getElem?_eq_none_iff.1 hj
    rw [List.getElem?_eq_none_iff.2 (by unfold Sv.nums; simp; omega)]
  | some n =>
    obtain ⟨p, hp, hn⟩ := hl j n hj
    rw [List.getElem?_map] at hp
    cases hm : (x.nums x.word)[j]? with
    | none => rw [hm] at hp; cases hp
    | some m =>
      rw [hm] at hp
      cases hp
      have hmlt : m < 18446744073709551616 := by
        have hmem := List.mem_of_getElem? hm
        unfold Sv.nums at hmem
        simp only [List.mem_cons, List.not_mem_nil, or_false] at hmem
        omega
      rw [dec_parseB hmlt] at hn
      injection hn with hn
      rw [hn]
/-- What eight numbers make. -/
def mkSv (n0 n1 n2 : Nat) (f b : Col) (fl : Nat) (n4 n5 n6 n7 : Nat) : Sv := ⟨n0, n1, (n2 : Int) == 1, f.kind, f.idx, f.r, f.g, f.b, b.kind, b.idx, b.r, b.g, b.b, fl, (n4 : Int) == 1, n5, n6, n7⟩
theorem bit_eq (b : Bool) : (((bitN b : Nat) : Int) == 1) = b := by cases b <;> rfl
theorem mk_back {x : Sv} (hx : x.ok = true) (hf : x.Fits) : mkSv x.row.toNat x.col.toNat (bitN x.pend) (foreN x.word) (backN x.word) (flagN x.word) (bitN x.org) x.g0.toNat x.g1.toNat x.act.toNat = x := by
  obtain ⟨o1, o2, o3, e0, e1, e2, e3, e4, e5, e6, e7, e8, e9, e10⟩ := sv_pen hf (x.ok_pen hx)
  obtain ⟨-, h1, h2, h3⟩ := pack_parts o1 o2 o3
  obtain ⟨⟨q0, q1, q2, q3⟩, ⟨q4, q5⟩, ⟨q6, q7⟩, q8, q9⟩ := cs_small hx
  unfold mkSv
  rw [show foreN x.word = x.fore from h1, show backN x.word = x.back from h2, show flagN x.word = x.a10.toNat from h3, bit_eq, bit_eq, ← e0, ← e1, ← e2, ← e3, ← e4, ← e5, ← e6, ← e7, ← e8, ← e9, ← e10]
  cases x
  simp only [Sv.mk.injEq, true_and, and_true] at *
  refine ⟨?_, ?_, ?_, ?_, ?_⟩ <;> omega
theorem mk_fits (n0 n1 n2 n4 n5 n6 n7 : Nat) (w : Nat) : (mkSv n0 n1 n2 (foreN w) (backN w) (flagN w) n4 n5 n6 n7).Fits := by
  obtain ⟨a1, a2, a3, a4⟩ := colOf_small (w % 67108864)
  obtain ⟨b1, b2, b3, b4⟩ := colOf_small (w / 67108864 % 67108864)
  have c : flagN w < 256 := by unfold flagN; omega
  unfold mkSv foreN backN
  constructor <;> (simp only; omega)
theorem mk_word {n0 n1 n2 n4 n5 n6 n7 w : Nat} (hw : w < 1152921504606846976) (hp : (mkSv n0 n1 n2 (foreN w) (backN w) (flagN w) n4 n5 n6 n7).pen = true) : (mkSv n0 n1 n2 (foreN w) (backN w) (flagN w) n4 n5 n6 n7).word = w := by
  have hp' : vPen (foreN w).kind (foreN w).idx (foreN w).r (foreN w).g (foreN w).b (backN w).kind (backN w).idx (backN w).r (backN w).g (backN w).b = true := hp
  unfold vPen at hp'
  rw [Bool.and_eq_true] at hp'
  have h1 := (vcol_colOf (w % 67108864)).1 hp'.1
  have h2 := (vcol_colOf (w / 67108864 % 67108864)).1 hp'.2
  exact parts_pack hw h1 h2
theorem pieces_len (b : UInt8) : ∀ (l : List UInt8), ∀ x ∈ pieces b l, x.length ≤ l.length
  | [], x, h => by simp [pieces] at h; subst h; simp
  | c :: l, x, h => by
    have ih := pieces_len b l
    rw [pieces] at h
    split at h
    · rcases List.mem_cons.1 h with rfl | h
      · simp
      · have := ih x h; simp only [List.length_cons]; omega
    · split at h
      · rw [List.mem_singleton.1 h]; simp
      · rename_i p r e
        rcases List.mem_cons.1 h with rfl | h
        · have := ih p (by rw [e]; exact List.mem_cons_self ..)
          simp only [List.length_cons]; omega
        · have := ih x (by rw [e]; exact List.mem_cons_of_mem _ h)
          simp only [List.length_cons]; omega
theorem nums_step {PL : List (List UInt8)} {l : List Nat} {cur : Array Value} {i v : Nat} {p : List UInt8} (h : ∀ (j n : Nat), l[j]? = some n → cur[j]? = some (.int .u64 (n : Int)) ∧ n < 18446744073709551616 ∧ (j ≠ 3 → n ≤ 1000) ∧ ∃ p, PL[j]? = some p ∧ Lib.parseUintB 64 p = .ok n) (hl : l.length = i) (hs : cur.size = 8) (hv : v < 18446744073709551616) (h3 : i ≠ 3 → v ≤ 1000) (hp : PL[i]? = some p) (hok : Lib.parseUintB 64 p = .ok v) (hi : i < 8 := by omega) :
    ∀ (j n : Nat), (l ++ [v])[j]? = some n → (cur.setIfInBounds i (.int .u64 (v : Int)))[j]? = some (.int .u64 (n : Int)) ∧ n < 18446744073709551616 ∧ (j ≠ 3 → n ≤ 1000) ∧ ∃ p, PL[j]? = some p ∧ Lib.parseUintB 64 p = .ok n := by
  intro j n hj
  by_cases hji : j < i
  · rw [List.getElem?_append_left (by omega)] at hj
    rw [Array.getElem?_setIfInBounds_ne (by omega)]
    exact h j n hj
  · have hji2 : j = i := by have := (List.getElem?_eq_some_iff.1 hj).1; rw [List.length_append] at this; simp at this; omega
    subst hji2
    rw [List.getElem?_append_right (by omega), hl, Nat.sub_self] at hj
    simp only [List.getElem?_cons_zero, Option.some.injEq] at hj
    subst hj
    exact ⟨by rw [Array.getElem?_setIfInBounds_self_of_lt (by omega)], hv, h3, p, hp, hok⟩
theorem list8 (l : List Nat) (h : l.length = 8) : ∃ n0 n1 n2 n3 n4 n5 n6 n7, l = [n0, n1, n2, n3, n4, n5, n6, n7] := by
  match l, h with
  | [n0, n1, n2, n3, n4, n5, n6, n7], _ => exact ⟨n0, n1, n2, n3, n4, n5, n6, n7, rfl⟩
end Go.Proofs.YtfgifjdholdohaaDoor
