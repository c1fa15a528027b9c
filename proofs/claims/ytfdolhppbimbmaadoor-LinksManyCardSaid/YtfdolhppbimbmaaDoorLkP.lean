/- Addresses in a text (43), in plain Lean. No condition. -/
import Derived.Lib.SpaceUEq
import Derived.Lib.Strings
import Derived.Lib.IndexLaws
namespace Go.Proofs.YtfdolhppbimbmaaDoor
set_option linter.unusedVariables false
set_option linter.unusedSimpArgs false
open Go

/-- A letter or a digit. -/
def plB (b : UInt8) : Bool := (decide (97 ≤ b.toNat) && decide (b.toNat ≤ 122)) || (decide (65 ≤ b.toNat) && decide (b.toNat ≤ 90)) || (decide (48 ≤ b.toNat) && decide (b.toNat ≤ 57))
def setL : List UInt8 := [45, 46, 95, 126, 58, 47, 63, 35, 64, 33, 36, 38, 39, 40, 41, 42, 43, 44, 59, 61, 37, 91, 93]
/-- A byte of an address. -/
def inB (b : UInt8) : Bool := decide (128 ≤ b.toNat) || plB b || setL.contains b
/-- A byte behind which no address begins. -/
def brkB (b : UInt8) : Bool := plB b || decide (128 ≤ b.toNat)
def httpL : List UInt8 := [104, 116, 116, 112, 58, 47, 47]
def httpsL : List UInt8 := [104, 116, 116, 112, 115, 58, 47, 47]
def ftpL : List UInt8 := [102, 116, 112, 58, 47, 47]
def fileL : List UInt8 := [102, 105, 108, 101, 58, 47, 47]
/-- How many bytes the scheme has. -/
def schN (l : List UInt8) : Nat := if Lib.hasPrefix l httpL then 7 else if Lib.hasPrefix l httpsL then 8 else if Lib.hasPrefix l ftpL then 6 else if Lib.hasPrefix l fileL then 7 else 0
def endL : List UInt8 := [46, 44, 58, 59, 33, 63, 39]
/-- Does the last byte not belong to the address? -/
def badT (t : List UInt8) : Bool := match t.getLast? with
  | none => false
  | some c => endL.contains c || (c == 41 && decide (t.count 40 < t.count 41)) || (c == 93 && decide (t.count 91 < t.count 93))
def trimK (l : List UInt8) : Nat → Nat
  | 0 => 0
  | k + 1 => if badT (l.take (k + 1)) then trimK l k else k + 1
def tailN (r : List UInt8) : Nat := trimK r r.length
/-- How many bytes the address has with which a text begins. -/
def addrN (l : List UInt8) : Nat := if schN l = 0 then 0 else if tailN ((l.drop (schN l)).takeWhile inB) = 0 then 0 else schN l + tailN ((l.drop (schN l)).takeWhile inB)
def spotsR : Bool → Nat → Nat → List UInt8 → List (Nat × Nat)
  | _, _, _, [] => []
  | _, i, k + 1, b :: t => spotsR (brkB b) (i + 1) k t
  | pv, i, 0, b :: t => if pv || addrN (b :: t) == 0 then spotsR (brkB b) (i + 1) 0 t else (i, i + addrN (b :: t)) :: spotsR (brkB b) (i + 1) (addrN (b :: t) - 1) t
/-- Where the addresses of a text are. -/
def spotsL (l : List UInt8) : List (Nat × Nat) := spotsR false 0 0 l
def cutL (l : List UInt8) (m : Nat × Nat) : List UInt8 := (l.drop m.1).take (m.2 - m.1)
def findL (l : List UInt8) : List (List UInt8) := (spotsL l).map (cutL l)

theorem schN_cases (l : List UInt8) : (∃ u, l = httpL ++ u ∧ schN l = 7) ∨ (∃ u, l = httpsL ++ u ∧ schN l = 8) ∨ (∃ u, l = ftpL ++ u ∧ schN l = 6) ∨ (∃ u, l = fileL ++ u ∧ schN l = 7) ∨ schN l = 0 := by
  unfold schN Lib.hasPrefix
  split
  · rename_i h
    obtain ⟨u, hu⟩ := List.isPrefixOf_iff_prefix.1 h
    exact .inl ⟨u, hu.symm, rfl⟩
  split
  · rename_i h
    obtain ⟨u, hu⟩ := List.isPrefixOf_iff_prefix.1 h
    exact .inr (.inl ⟨u, hu.symm, rfl⟩)
  split
  · rename_i h
    obtain ⟨u, hu⟩ := List.isPrefixOf_iff_prefix.1 h
    exact .inr (.inr (.inl ⟨u, hu.symm, rfl⟩))
  split
  · rename_i h
    obtain ⟨u, hu⟩ := List.isPrefixOf_iff_prefix.1 h
    exact .inr (.inr (.inr (.inl ⟨u, hu.symm, rfl⟩)))
  · exact .inr (.inr (.inr (.inr rfl)))
theorem sch_http (u : List UInt8) : schN (httpL ++ u) = 7 := rfl
theorem sch_https (u : List UInt8) : schN (httpsL ++ u) = 8 := rfl
theorem sch_ftp (u : List UInt8) : schN (ftpL ++ u) = 6 := rfl
theorem sch_file (u : List UInt8) : schN (fileL ++ u) = 7 := rfl
/-- A scheme, and what is behind it. -/
theorem schN_any (l : List UInt8) : schN l = 0 ∨ ∃ p u, l = p ++ u ∧ schN l = p.length ∧ 6 ≤ p.length ∧ p.length ≤ 8 ∧ ∀ v, schN (p ++ v) = p.length := by
  rcases schN_cases l with ⟨u, h1, h2⟩ | ⟨u, h1, h2⟩ | ⟨u, h1, h2⟩ | ⟨u, h1, h2⟩ | h
  · exact .inr ⟨httpL, u, h1, h2, by decide, by decide, sch_http⟩
  · exact .inr ⟨httpsL, u, h1, h2, by decide, by decide, sch_https⟩
  · exact .inr ⟨ftpL, u, h1, h2, by decide, by decide, sch_ftp⟩
  · exact .inr ⟨fileL, u, h1, h2, by decide, by decide, sch_file⟩
  · exact .inl h
theorem trimK_le (l : List UInt8) : ∀ k, trimK l k ≤ k
  | 0 => Nat.le_refl _
  | k + 1 => by
    rw [trimK]
    split
    · have := trimK_le l k; omega
    · exact Nat.le_refl _
theorem trimK_good (l : List UInt8) : ∀ k, trimK l k ≠ 0 → badT (l.take (trimK l k)) = false
  | 0, h => absurd rfl h
  | k + 1, h => by
    rw [trimK] at h ⊢
    split
    · rename_i hb
      rw [if_pos hb] at h
      exact trimK_good l k h
    · rename_i hb
      exact (Bool.not_eq_true _).mp hb
theorem trimK_self (l : List UInt8) (k : Nat) (h : badT (l.take k) = false) : trimK l k = k := by
  cases k with
  | zero => rfl
  | succ k => rw [trimK, if_neg (by rw [h]; exact Bool.false_ne_true)]
theorem takeWhile_le (p : UInt8 → Bool) : ∀ l : List UInt8, (l.takeWhile p).length ≤ l.length
  | [] => Nat.le_refl _
  | b :: t => by
    have := takeWhile_le p t
    rw [List.takeWhile_cons]
    split
    · rw [List.length_cons, List.length_cons]; omega
    · simp
theorem takeWhile_all {p : UInt8 → Bool} : ∀ {l : List UInt8}, (∀ b ∈ l, p b = true) → l.takeWhile p = l
  | [], _ => rfl
  | b :: t, h => by rw [List.takeWhile_cons, if_pos (h b List.mem_cons_self), takeWhile_all (fun x hx => h x (List.mem_cons_of_mem _ hx))]
theorem takeWhile_mem {p : UInt8 → Bool} : ∀ {l : List UInt8} {b : UInt8}, b ∈ l.takeWhile p → p b = true
  | [], b, h => by cases h
  | x :: t, b, h => by
    rw [List.takeWhile_cons] at h
    split at h
    · rename_i hp
      rcases List.mem_cons.1 h with rfl | h
      · exact hp
      · exact takeWhile_mem h
    · cases h
theorem takeWhile_take {p : UInt8 → Bool} : ∀ (l : List UInt8), l.take (l.takeWhile p).length = l.takeWhile p
  | [] => rfl
  | b :: t => by
    rw [List.takeWhile_cons]
    split
    · rw [List.length_cons, List.take_succ_cons, takeWhile_take t]
    · rfl
theorem takeWhile_end {p : UInt8 → Bool} {c : UInt8} (hc : p c = false) (v : List UInt8) : ∀ {l : List UInt8}, (∀ b ∈ l, p b = true) → (l ++ c :: v).takeWhile p = l
  | [], _ => by rw [List.nil_append, List.takeWhile_cons, if_neg (by rw [hc]; exact Bool.false_ne_true)]
  | b :: t, h => by rw [List.cons_append, List.takeWhile_cons, if_pos (h b List.mem_cons_self), takeWhile_end hc v (fun x hx => h x (List.mem_cons_of_mem _ hx))]
/-- An address begins with a scheme, and what is behind it is of it. -/
theorem addr_any (l : List UInt8) : addrN l = 0 ∨ ∃ p u k, l = p ++ u ∧ schN l = p.length ∧ 6 ≤ p.length ∧ p.length ≤ 8 ∧ (∀ v, schN (p ++ v) = p.length) ∧ 0 < k ∧ k ≤ (u.takeWhile inB).length ∧ badT (u.take k) = false ∧ addrN l = p.length + k := by
  rcases schN_any l with h | ⟨p, u, h1, h2, h3, h3', h4⟩
  · exact .inl (by unfold addrN; rw [if_pos h])
  · have hd : l.drop (schN l) = u := by rw [h2, h1, List.drop_left]
    by_cases hk : tailN (u.takeWhile inB) = 0
    · exact .inl (by unfold addrN; rw [hd, if_pos hk, if_neg (by omega)])
    · refine .inr ⟨p, u, tailN (u.takeWhile inB), h1, h2, h3, h3', h4, by omega, trimK_le _ _, ?_, ?_⟩
      · have := trimK_good (u.takeWhile inB) _ hk
        have hle : tailN (u.takeWhile inB) ≤ (u.takeWhile inB).length := trimK_le _ _
        have e : (u.takeWhile inB).take (tailN (u.takeWhile inB)) = u.take (tailN (u.takeWhile inB)) := by
          rw [← takeWhile_take u (p := inB), List.take_take, takeWhile_take u, Nat.min_eq_left hle]
        rw [← e]
        exact this
      · unfold addrN
        rw [hd, if_neg (by omega), if_neg hk, h2]
theorem addrN_le (l : List UInt8) : addrN l ≤ l.length := by
  rcases addr_any l with h | ⟨p, u, k, h1, h2, h3, _, h4, h5, h6, h7, h8⟩
  · omega
  · have := takeWhile_le inB u
    rw [h8, h1, List.length_append]
    omega
theorem take_in {u : List UInt8} {k : Nat} (h : k ≤ (u.takeWhile inB).length) : ∀ b ∈ u.take k, inB b = true := by
  intro b hb
  refine takeWhile_mem (l := u) (p := inB) ?_
  have e : u.take k = (u.takeWhile inB).take k := by
    rw [← takeWhile_take u (p := inB), List.take_take, Nat.min_eq_left h]
  rw [e] at hb
  exact List.mem_of_mem_take hb
theorem addr_of {p v : List UInt8} {k : Nat} (hs : schN (p ++ v) = p.length) (hp : 6 ≤ p.length) (hk : 0 < k) (hw : v.takeWhile inB = v.take k) (hl : k ≤ v.length) (hb : badT (v.take k) = false) : addrN (p ++ v) = p.length + k := by
  have hd : (p ++ v).drop (schN (p ++ v)) = v := by rw [hs, List.drop_left]
  have ht : tailN (v.takeWhile inB) = k := by
    unfold tailN
    have hlen : (v.take k).length = k := by rw [List.length_take]; omega
    rw [hw, hlen]
    exact trimK_self _ _ (by rw [List.take_take, Nat.min_self]; exact hb)
  unfold addrN
  rw [hd, ht, hs, if_neg (by omega), if_neg (by omega)]
/-- An address alone. -/
theorem addr_alone (l : List UInt8) : addrN (l.take (addrN l)) = addrN l := by
  rcases addr_any l with h | ⟨p, u, k, h1, h2, h3, _, h4, h5, h6, h7, h8⟩
  · rw [h]; rfl
  · have hle := takeWhile_le inB u
    have hlen : (u.take k).length = k := by rw [List.length_take]; omega
    have e : l.take (addrN l) = p ++ u.take k := by
      rw [h8, h1, List.take_append, List.take_of_length_le (by omega), Nat.add_sub_cancel_left]
    have hin := take_in h6
    rw [e, h8]
    refine addr_of (h4 _) h3 h5 ?_ (by omega) (by rw [List.take_take, Nat.min_self]; exact h7)
    rw [takeWhile_all hin, List.take_take, Nat.min_self]
/-- An address before a space. -/
theorem addr_front {l v : List UInt8} {c : UInt8} (hc : inB c = false) (h : addrN l = l.length) (hne : l ≠ []) : addrN (l ++ c :: v) = l.length := by
  have hpos := List.length_pos_iff.2 hne
  rcases addr_any l with h0 | ⟨p, u, k, h1, h2, h3, _, h4, h5, h6, h7, h8⟩
  · omega
  · have hle := takeWhile_le inB u
    have hk : k = u.length := by rw [h8, h1, List.length_append] at h; omega
    have hin := take_in h6
    have hu : u.take k = u := by rw [hk, List.take_length]
    rw [hu] at hin h7
    have hcv : (u ++ c :: v).take k = u := by rw [hk, List.take_left]
    have := addr_of (p := p) (v := u ++ c :: v) (h4 _) h3 h5 (by rw [takeWhile_end hc v hin, hcv]) (by rw [List.length_append]; omega) (by rw [hcv]; exact h7)
    rw [h1, List.append_assoc, this, List.length_append, hk]
theorem spots_skip : ∀ (k : Nat) (pv : Bool) (i : Nat) (a : List UInt8) (b : UInt8) (t : List UInt8), a.length = k → spotsR pv i (k + 1) (a ++ b :: t) = spotsR (brkB b) (i + k + 1) 0 t
  | 0, pv, i, [], b, t, _ => rfl
  | k + 1, pv, i, x :: a, b, t, h => by
    rw [List.cons_append, spotsR, spots_skip k _ (i + 1) a b t (by simpa using h)]
    congr 1
    omega
theorem spots_over {pv : Bool} {i k : Nat} {l : List UInt8} (h : l.length ≤ k) : spotsR pv i k l = [] := by
  induction l generalizing pv i k with
  | nil => cases k <;> rfl
  | cons b t ih =>
    cases k with
    | zero => simp at h
    | succ k => rw [spotsR]; exact ih (by simpa using h)
theorem spots_no {pv : Bool} {i : Nat} {b : UInt8} {t : List UInt8} (h : pv = true ∨ addrN (b :: t) = 0) : spotsR pv i 0 (b :: t) = spotsR (brkB b) (i + 1) 0 t := by
  rw [spotsR, if_pos]
  rcases h with h | h
  · rw [h]; rfl
  · rw [h, Bool.or_comm]; rfl
theorem spots_yes {i : Nat} {b : UInt8} {t : List UInt8} (h : addrN (b :: t) ≠ 0) : spotsR false i 0 (b :: t) = (i, i + addrN (b :: t)) :: spotsR (brkB b) (i + 1) (addrN (b :: t) - 1) t := by
  rw [spotsR, if_neg]
  simpa using h
theorem spots_alone {i : Nat} {l : List UInt8} (h : addrN l = l.length) (hne : l ≠ []) : spotsR false i 0 l = [(i, i + l.length)] := by
  cases l with
  | nil => exact absurd rfl hne
  | cons b t =>
    rw [spots_yes (by rw [h]; simp), h, spots_over (by simp)]
theorem find_alone {l : List UInt8} (h : addrN l = l.length) (hne : l ≠ []) : findL l = [l] := by
  unfold findL spotsL
  rw [spots_alone h hne, List.map_singleton, Nat.zero_add]
  unfold cutL
  simp
theorem no_sp (t : List UInt8) : addrN (32 :: t) = 0 := rfl
theorem no_a (t : List UInt8) : addrN (97 :: t) = 0 := rfl
theorem no_b (t : List UInt8) : addrN (98 :: t) = 0 := rfl
theorem spots_between {l : List UInt8} (h : addrN l = l.length) (hne : l ≠ []) : spotsL ([97, 32] ++ (l ++ [32, 98])) = [(2, 2 + l.length)] := by
  have hf := addr_front (c := 32) (v := [98]) (by decide) h hne
  cases l with
  | nil => exact absurd rfl hne
  | cons b t =>
    unfold spotsL
    rw [List.cons_append, spots_no (.inr (no_a _)), List.cons_append, spots_no (.inl (by decide)), List.nil_append, List.cons_append]
    rw [show brkB 32 = false by decide, spots_yes (by rw [← List.cons_append, hf]; simp), ← List.cons_append, hf, List.length_cons, Nat.add_sub_cancel]
    congr 1
    cases ht : t.reverse with
    | nil =>
      have : t = [] := by simpa using ht
      subst this
      rw [List.length_nil, List.nil_append, spotsR.eq_def]
      simp only []
      rw [if_pos (by rw [no_sp]; simp), spots_no (.inr (no_b _))]
      rfl
    | cons c r =>
      have e : t = r.reverse ++ [c] := by
        have := congrArg List.reverse ht
        simpa using this
      rw [e, List.length_append, List.length_singleton, List.append_assoc, List.singleton_append, spots_skip _ _ _ r.reverse c _ rfl, spots_no (.inr (no_sp _)), show brkB 32 = false by decide, spots_no (.inr (no_b _))]
      rfl
theorem find_between {l : List UInt8} (h : addrN l = l.length) (hne : l ≠ []) : findL ([97, 32] ++ (l ++ [32, 98])) = [l] := by
  unfold findL
  rw [spots_between h hne, List.map_singleton]
  unfold cutL
  simp
/-- All spots are addresses, within the text. -/
theorem spots_in : ∀ (l : List UInt8) (pv : Bool) (i k : Nat) (m : Nat × Nat), m ∈ spotsR pv i k l → i + k ≤ m.1 ∧ m.1 < m.2 ∧ m.2 ≤ i + l.length ∧ addrN (l.drop (m.1 - i)) = m.2 - m.1
  | [], pv, i, k, m, h => by cases k <;> cases h
  | b :: t, pv, i, k + 1, m, h => by
    rw [spotsR] at h
    obtain ⟨h1, h2, h3, h4⟩ := spots_in t _ _ _ m h
    refine ⟨by omega, h2, by rw [List.length_cons]; omega, ?_⟩
    rw [show m.1 - i = (m.1 - (i + 1)) + 1 by omega, List.drop_succ_cons]
    exact h4
  | b :: t, pv, i, 0, m, h => by
    rw [spotsR] at h
    have key : ∀ pv' k', m ∈ spotsR pv' (i + 1) k' t → i + 0 ≤ m.1 ∧ m.1 < m.2 ∧ m.2 ≤ i + (b :: t).length ∧ addrN ((b :: t).drop (m.1 - i)) = m.2 - m.1 := fun pv' k' h => by
      obtain ⟨h1, h2, h3, h4⟩ := spots_in t _ _ _ m h
      refine ⟨by omega, h2, by rw [List.length_cons]; omega, ?_⟩
      rw [show m.1 - i = (m.1 - (i + 1)) + 1 by omega, List.drop_succ_cons]
      exact h4
    split at h
    · exact key _ _ h
    · rename_i hc
      have hn : addrN (b :: t) ≠ 0 := by
        intro e; apply hc; rw [e]; simp
      have hle := addrN_le (b :: t)
      rcases List.mem_cons.1 h with rfl | h
      · exact ⟨by omega, by show i < i + _; omega, by show i + _ ≤ _; omega, by show addrN ((b :: t).drop (i - i)) = i + _ - i; rw [Nat.sub_self, List.drop_zero]; omega⟩
      · exact key _ _ h
theorem spots_sorted : ∀ (l : List UInt8) (pv : Bool) (i k : Nat), (spotsR pv i k l).Pairwise (fun a b => a.2 ≤ b.1)
  | [], pv, i, k => by cases k <;> exact List.Pairwise.nil
  | b :: t, pv, i, k + 1 => by rw [spotsR]; exact spots_sorted t _ _ _
  | b :: t, pv, i, 0 => by
    rw [spotsR]
    split
    · exact spots_sorted t _ _ _
    · refine List.Pairwise.cons (fun m hm => ?_) (spots_sorted t _ _ _)
      have := (spots_in t _ _ _ m hm).1
      show i + addrN (b :: t) ≤ m.1
      omega
/-- What is found is an address. -/
theorem find_addr {l a : List UInt8} (h : a ∈ findL l) : addrN a = a.length ∧ a ≠ [] := by
  unfold findL at h
  obtain ⟨m, hm, rfl⟩ := List.mem_map.1 h
  obtain ⟨h1, h2, h3, h4⟩ := spots_in l false 0 0 m hm
  rw [Nat.sub_zero] at h4
  have hl : (cutL l m).length = m.2 - m.1 := by unfold cutL; rw [List.length_take, List.length_drop]; omega
  constructor
  · rw [hl]
    unfold cutL
    rw [← h4, addr_alone, h4]
  · intro e
    rw [e] at hl
    simp at hl
    omega
/-- Is the byte before a place one behind which no address begins? -/
def pvAt (l : List UInt8) (i : Nat) : Bool := decide (0 < i) && brkB (l.getD (i - 1) 0)
theorem pvAt_succ {l : List UInt8} {i : Nat} {b : UInt8} (hb : l[i]? = some b) : pvAt l (i + 1) = brkB b := by
  unfold pvAt
  rw [decide_eq_true (by omega), Bool.true_and, Nat.add_sub_cancel]
  simp [List.getD, hb]
theorem drop_at {l : List UInt8} {i : Nat} {b : UInt8} (hb : l[i]? = some b) : l.drop i = b :: l.drop (i + 1) := by
  obtain ⟨h, e⟩ := List.getElem?_eq_some_iff.1 hb
  rw [List.drop_eq_getElem_cons h, e]
theorem spots_at_no {l : List UInt8} {i : Nat} {b : UInt8} (hb : l[i]? = some b) (h : pvAt l i = true ∨ addrN (l.drop i) = 0) : spotsR (pvAt l i) i 0 (l.drop i) = spotsR (pvAt l (i + 1)) (i + 1) 0 (l.drop (i + 1)) := by
  rw [drop_at hb] at h ⊢
  rw [spots_no h, pvAt_succ hb]
theorem spots_at_yes {l : List UInt8} {i : Nat} (hp : pvAt l i = false) (ha : addrN (l.drop i) ≠ 0) : spotsR (pvAt l i) i 0 (l.drop i) = (i, i + addrN (l.drop i)) :: spotsR (pvAt l (i + addrN (l.drop i))) (i + addrN (l.drop i)) 0 (l.drop (i + addrN (l.drop i))) := by
  have hle := addrN_le (l.drop i)
  rw [List.length_drop] at hle
  have h6 : 7 ≤ addrN (l.drop i) := by
    rcases addr_any (l.drop i) with h | ⟨p, u, k, _, _, h3, _, _, h5, _, _, h8⟩
    · exact absurd h ha
    · omega
  obtain ⟨a, hA⟩ : ∃ a, a = addrN (l.drop i) := ⟨_, rfl⟩
  rw [← hA] at ha hle h6 ⊢
  obtain ⟨b, hb⟩ : ∃ b, l[i]? = some b := ⟨_, List.getElem?_eq_getElem (by omega)⟩
  obtain ⟨c, hc⟩ : ∃ c, l[i + a - 1]? = some c := ⟨_, List.getElem?_eq_getElem (by omega)⟩
  rw [hp, drop_at hb, spots_yes (by rw [← drop_at hb, ← hA]; exact ha), ← drop_at hb, ← hA]
  congr 1
  have e : l.drop (i + 1) = (l.drop (i + 1)).take (a - 2) ++ c :: l.drop (i + a) := by
    have h1 : (l.drop (i + 1)).drop (a - 2) = c :: l.drop (i + a) := by
      rw [List.drop_drop, show i + 1 + (a - 2) = i + a - 1 by omega, drop_at hc, show i + a - 1 + 1 = i + a by omega]
    rw [← h1, List.take_append_drop]
  have hlen : ((l.drop (i + 1)).take (a - 2)).length = a - 2 := by rw [List.length_take, List.length_drop]; omega
  have key := spots_skip (a - 2) (brkB b) (i + 1) _ c (l.drop (i + a)) hlen
  rw [← e, show a - 2 + 1 = a - 1 by omega, show i + 1 + (a - 2) + 1 = i + a by omega] at key
  rw [key]
  congr 1
  unfold pvAt
  rw [decide_eq_true (by omega), Bool.true_and]
  simp [List.getD, hc]
theorem spots_at_end {l : List UInt8} {i : Nat} {pv : Bool} (h : l.length ≤ i) : spotsR pv i 0 (l.drop i) = [] := by
  rw [List.drop_of_length_le h]; rfl
/-- How many bytes at a text's beginning are of an address. -/
def lenN (l : List UInt8) : Nat := (l.takeWhile inB).length
theorem lenN_le (l : List UInt8) : lenN l ≤ l.length := takeWhile_le _ _
theorem lenN_at {l : List UInt8} {i : Nat} {b : UInt8} (h : ∀ c ∈ l.take i, inB c = true) (hb : l[i]? = some b) (hn : inB b = false) : lenN l = i := by
  unfold lenN
  have hl := (List.getElem?_eq_some_iff.1 hb).1
  rw [← List.take_append_drop i l, drop_at hb, takeWhile_end hn _ h, List.length_take]
  omega
theorem lenN_all {l : List UInt8} (h : ∀ c ∈ l, inB c = true) : lenN l = l.length := by
  unfold lenN; rw [takeWhile_all h]
/-- An address by the steps in which it is looked for. -/
theorem addr_none {l : List UInt8} (h : schN l = 0) : addrN l = 0 := by unfold addrN; rw [if_pos h]
theorem addr_take (l : List UInt8) : (l.drop (schN l)).takeWhile inB = (l.drop (schN l)).take (lenN (l.drop (schN l))) := by unfold lenN; rw [takeWhile_take]
theorem addr_empty {l : List UInt8} (h : tailN ((l.drop (schN l)).take (lenN (l.drop (schN l)))) = 0) : addrN l = 0 := by
  unfold addrN; rw [addr_take, h]; simp
theorem addr_some {l : List UInt8} (h0 : schN l ≠ 0) (h : tailN ((l.drop (schN l)).take (lenN (l.drop (schN l)))) ≠ 0) : addrN l = schN l + tailN ((l.drop (schN l)).take (lenN (l.drop (schN l)))) := by
  unfold addrN; rw [addr_take, if_neg h0, if_neg h]
theorem spots_one {l : List UInt8} (h : addrN l ≠ 0) (hs : l.length < addrN l + 7) : spotsL l = [(0, addrN l)] := by
  have h1 := spots_at_yes (l := l) (i := 0) rfl (by rw [List.drop_zero]; exact h)
  rw [List.drop_zero, Nat.zero_add] at h1
  unfold spotsL
  rw [show (false : Bool) = pvAt l 0 from rfl, h1]
  congr 1
  have key : ∀ (t : List UInt8) pv i, t.length < 7 → spotsR pv i 0 t = [] := by
    intro t
    induction t with
    | nil => intro pv i _; rfl
    | cons b t ih =>
      intro pv i ht
      rw [spots_no, ih _ _ (by simp at ht; omega)]
      refine .inr ?_
      rcases addr_any (b :: t) with h | ⟨p, u, k, _, _, h3, _, _, h5, _, _, h8⟩
      · exact h
      · have := addrN_le (b :: t); omega
  exact key _ _ _ (by rw [List.length_drop]; omega)
/-- The runes of an address are its bytes. -/
theorem dec_bytes (l : List UInt8) : ((l.getD 0 0).toNat < 128 ∧ Lib.decodeL l = ((l.getD 0 0).toNat, 1)) ∨ (128 ≤ (l.getD 0 0).toNat ∧ 128 ≤ (Lib.decodeL l).1 ∧ 1 ≤ (Lib.decodeL l).2 ∧ ∀ b ∈ l.take (Lib.decodeL l).2, 128 ≤ b.toNat) := by
  rw [Lib.decodeL_N]
  have hc := Lib.decodeN_conts l.length (l.getD 0 0).toNat (l.getD 1 0).toNat (l.getD 2 0).toNat (l.getD 3 0).toNat
  have hw := Lib.decodeN_ge1 l.length (l.getD 0 0).toNat (l.getD 1 0).toNat (l.getD 2 0).toNat (l.getD 3 0).toNat
  by_cases h0 : (l.getD 0 0).toNat < 128
  · exact .inl ⟨h0, Lib.decodeN_ascii _ _ _ _ _ h0⟩
  · refine .inr ⟨by omega, ?_, hw, ?_⟩
    · rcases Lib.decodeN_cases l.length (l.getD 0 0).toNat (l.getD 1 0).toNat (l.getD 2 0).toNat (l.getD 3 0).toNat with ⟨c, e⟩ | ⟨c1, c2, c3, cv, e⟩ | ⟨c1, c2, c3, c4, cv, e⟩ | ⟨c, e⟩ | e
      · omega
      · rw [e]; exact cv
      · rw [e]; show 128 ≤ _; omega
      · omega
      · rw [e]; decide
    · generalize Lib.decodeN l.length (l.getD 0 0).toNat (l.getD 1 0).toNat (l.getD 2 0).toNat (l.getD 3 0).toNat = D at hc hw
      obtain ⟨c1, c2, c3, c4⟩ := hc
      intro b hb
      obtain ⟨j, hj⟩ := List.mem_iff_getElem?.1 hb
      rw [List.getElem?_take] at hj
      split at hj
      · rename_i hjl
        have hg : l.getD j 0 = b := by simp [List.getD, hj]
        rcases (by omega : j = 0 ∨ j = 1 ∨ j = 2 ∨ j = 3) with rfl | rfl | rfl | rfl
        · rw [← hg]; omega
        · rw [← hg]; have := (c1 (by omega)).1; omega
        · rw [← hg]; have := (c2 (by omega)).1; omega
        · rw [← hg]; have := (c3 (by omega)).1; omega
      · cases hj
end Go.Proofs.YtfdolhppbimbmaaDoor
