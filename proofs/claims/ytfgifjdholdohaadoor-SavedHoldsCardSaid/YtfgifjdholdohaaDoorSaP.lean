/- Numerals, and joined by spaces (23), in plain Lean. No condition. -/
import Derived.Test.YtfgifjdholdohaaDoorTiQ
import Derived.Lib.ItoaNum
import Derived.Lib.ParseIntB
namespace Go.Proofs.YtfgifjdholdohaaDoor
set_option linter.unusedVariables false
set_option linter.unusedSimpArgs false
open Go Go.Lib

theorem dig_of {d : Nat} (h : d < 10) : isDig (UInt8.ofNat (48 + d)) = true ∧ (UInt8.ofNat (48 + d)).toNat = 48 + d := by
  have e : (UInt8.ofNat (48 + d)).toNat = 48 + d := by
    rw [UInt8.toNat_ofNat']
    omega
  refine ⟨?_, e⟩
  unfold isDig
  rw [e, decide_eq_true (by omega), decide_eq_true (by omega)]
  rfl
theorem dec_digits (u : Nat) : ∀ c ∈ decDigits u, isDig c = true := by
  induction u using Nat.strongRecOn with
  | _ u ih =>
    intro c hc
    rw [decDigits] at hc
    split at hc
    · rename_i h
      rw [List.mem_singleton.1 hc]
      exact (dig_of h).1
    · rename_i h
      rcases List.mem_append.1 hc with hc | hc
      · exact ih (u / 10) (by omega) c hc
      · rw [List.mem_singleton.1 hc]
        exact (dig_of (Nat.mod_lt _ (by decide))).1
theorem dec_numb (u : Nat) : numb (decDigits u) = u := by
  induction u using Nat.strongRecOn with
  | _ u ih =>
    rw [decDigits]
    split
    · rename_i h
      unfold numb
      rw [List.foldl_cons, List.foldl_nil, (dig_of h).2]
      omega
    · rename_i h
      have e := ih (u / 10) (by omega)
      unfold numb at e ⊢
      rw [List.foldl_append, e, List.foldl_cons, List.foldl_nil, (dig_of (Nat.mod_lt u (by decide))).2]
      omega
theorem dec_ne (u : Nat) : decDigits u ≠ [] := by
  rw [decDigits]
  split <;> simp
theorem dec_parse {u : Nat} (h : u < 18446744073709551616) : parseUint10 0 (decDigits u) = .ok u := by
  by_cases hx : ∃ v, parseUint10 0 (decDigits u) = .ok v
  · obtain ⟨v, hv⟩ := hx
    have e := parse10_ok _ 0 v (dec_digits u) hv
    have e2 := dec_numb u
    unfold numb at e2
    rw [hv, e, e2]
  · have hb := parse10_bad (decDigits u) 0 (dec_digits u) (fun v hv => hx ⟨v, hv⟩)
    have e2 := dec_numb u
    unfold numb at e2
    omega
theorem parseM_eq : ∀ (l : List UInt8) (a : Nat), parseUintM (2 ^ 64 - 1) a l = parseUint10 a l
  | [], a => rfl
  | c :: r, a => by
    unfold parseUintM parseUint10
    split
    · split
      · rfl
      · by_cases h : 18446744073709551616 ≤ a * 10 + (c.toNat - 48)
        · rw [if_pos h, if_pos (by omega)]
        · rw [if_neg h, if_neg (by omega)]
          exact parseM_eq r _
    · rfl
theorem dec_parseB {u : Nat} (h : u < 18446744073709551616) : parseUintB 64 (decDigits u) = .ok u := by
  unfold parseUintB
  rw [if_neg (dec_ne u), parseM_eq]
  exact dec_parse h
theorem dec_inj {u v : Nat} (h : decDigits u = decDigits v) : u = v := by
  rw [← dec_numb u, ← dec_numb v, h]
theorem dec_space (u : Nat) : (32 : UInt8) ∉ decDigits u := fun hm => by
  have := dec_digits u _ hm
  cases this
/-- Words, with spaces between them. -/
def joinS : List (List UInt8) → List UInt8
  | [] => []
  | [x] => x
  | x :: y :: r => x ++ 32 :: joinS (y :: r)
theorem pieces_join : ∀ {l : List (List UInt8)}, l ≠ [] → (∀ x ∈ l, (32 : UInt8) ∉ x) → pieces 32 (joinS l) = l
  | [], h, _ => absurd rfl h
  | [x], _, h => pieces_no 32 x (h x (List.mem_singleton_self x))
  | x :: y :: r, _, h => by
    rw [joinS, pieces_app 32 x _ (h x (List.mem_cons_self ..)), pieces_join (by simp) (fun z hz => h z (List.mem_cons_of_mem _ hz))]
/-- The text of numbers. -/
def textN (l : List Nat) : List UInt8 := joinS (l.map decDigits)
theorem pieces_text {l : List Nat} (h : l ≠ []) : pieces 32 (textN l) = l.map decDigits :=
  pieces_join (by simpa using h) (fun x hx => by obtain ⟨u, _, rfl⟩ := List.mem_map.1 hx; exact dec_space u)
theorem textN_inj {l l' : List Nat} (h : l ≠ []) (h' : l' ≠ []) (e : textN l = textN l') : l = l' := by
  have e2 : l.map decDigits = l'.map decDigits := by rw [← pieces_text h, ← pieces_text h', e]
  have : ∀ (a b : List Nat), a.map decDigits = b.map decDigits → a = b := by
    intro a
    induction a with
    | nil => intro b hb; cases b with
      | nil => rfl
      | cons x b => simp at hb
    | cons y a ih =>
      intro b hb
      cases b with
      | nil => simp at hb
      | cons x b =>
        simp only [List.map_cons, List.cons.injEq] at hb
        rw [dec_inj hb.1, ih b hb.2]
  exact this l l' e2
/-- A color's bits, and those of a pen. -/
structure Col where
  kind : Nat
  idx : Nat
  r : Nat
  g : Nat
  b : Nat
def Col.small (c : Col) : Prop := c.kind < 256 ∧ c.idx < 256 ∧ c.r < 256 ∧ c.g < 256 ∧ c.b < 256
def Col.ok (c : Col) : Prop := (c.kind = 0 ∧ c.idx = 0 ∧ c.r = 0 ∧ c.g = 0 ∧ c.b = 0) ∨ (c.kind = 1 ∧ c.idx < 256 ∧ c.r = 0 ∧ c.g = 0 ∧ c.b = 0) ∨ (c.kind = 2 ∧ c.idx = 0 ∧ c.r < 256 ∧ c.g < 256 ∧ c.b < 256)
def Col.bits (c : Col) : Nat := c.kind * 16777216 + c.r * 65536 + c.g * 256 + c.b + c.idx
/-- The color of bits (below 2^32). -/
def colOf (w : Nat) : Col :=
  if w / 16777216 % 256 = 1 then ⟨1, w % 256, w / 65536 % 256, w / 256 % 256, 0⟩ else ⟨w / 16777216 % 256, 0, w / 65536 % 256, w / 256 % 256, w % 256⟩
theorem col_back {c : Col} (h : c.ok) : colOf c.bits = c := by
  obtain ⟨k, i, r, g, b⟩ := c
  unfold Col.ok at h
  unfold colOf Col.bits
  simp only at h ⊢
  rcases h with ⟨rfl, rfl, rfl, rfl, rfl⟩ | ⟨rfl, hi, rfl, rfl, rfl⟩ | ⟨rfl, rfl, hr, hg, hb⟩
  · rfl
  · rw [if_pos (by omega)]
    refine Col.mk.injEq .. ▸ ⟨?_, ?_, ?_, ?_, ?_⟩
    all_goals omega
  · rw [if_neg (by omega)]
    refine Col.mk.injEq .. ▸ ⟨?_, ?_, ?_, ?_, ?_⟩
    all_goals omega
theorem col_bits {c : Col} (h : c.ok) : c.bits < 67108864 := by
  obtain ⟨k, i, r, g, b⟩ := c
  unfold Col.ok at h
  unfold Col.bits
  simp only at h ⊢
  omega
theorem bits_back {w : Nat} (hw : w < 67108864) (h : (colOf w).ok) : (colOf w).bits = w := by
  unfold colOf at h ⊢
  split
  · rename_i e
    rw [if_pos e] at h
    unfold Col.ok at h
    unfold Col.bits
    simp only at h ⊢
    omega
  · rename_i e
    rw [if_neg e] at h
    unfold Col.ok at h
    unfold Col.bits
    simp only at h ⊢
    omega
/-- The word of a pen. -/
def packN (f b : Col) (fl : Nat) : Nat := f.bits + b.bits * 67108864 + fl * 4503599627370496
/-- What is in a word. -/
def foreN (w : Nat) : Col := colOf (w % 67108864)
def backN (w : Nat) : Col := colOf (w / 67108864 % 67108864)
def flagN (w : Nat) : Nat := w / 4503599627370496 % 256
theorem pack_parts {f b : Col} {fl : Nat} (hf : f.ok) (hb : b.ok) (hl : fl < 256) : packN f b fl < 1152921504606846976 ∧ foreN (packN f b fl) = f ∧ backN (packN f b fl) = b ∧ flagN (packN f b fl) = fl := by
  have h1 := col_bits hf
  have h2 := col_bits hb
  unfold foreN backN flagN packN
  refine ⟨by omega, ?_, ?_, by omega⟩
  · rw [show (f.bits + b.bits * 67108864 + fl * 4503599627370496) % 67108864 = f.bits by omega]
    exact col_back hf
  · rw [show (f.bits + b.bits * 67108864 + fl * 4503599627370496) / 67108864 % 67108864 = b.bits by omega]
    exact col_back hb
theorem parts_pack {w : Nat} (hw : w < 1152921504606846976) (hf : (foreN w).ok) (hb : (backN w).ok) : packN (foreN w) (backN w) (flagN w) = w := by
  unfold packN
  rw [show (foreN w).bits = w % 67108864 from bits_back (by omega) hf, show (backN w).bits = w / 67108864 % 67108864 from bits_back (by omega) hb]
  unfold flagN
  omega
end Go.Proofs.YtfgifjdholdohaaDoor
