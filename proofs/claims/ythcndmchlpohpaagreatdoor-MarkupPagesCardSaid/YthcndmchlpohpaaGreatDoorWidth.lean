/- The width of a rune: what the program's binary search over its two tables answers. The tables hold what the program's text lays. -/
import Derived.Test.YthcndmchlpohpaaGreatDoorPen
namespace Go.Proofs.YthcndmchlpohpaaGreatDoor
set_option linter.unusedVariables false
set_option linter.unusedSimpArgs false
open Go.RowKit

/-- Is a rune in one of the first n ranges? -/
def inTab (n : Nat) (T : Nat → Int × Int) (r : Int) : Bool := (List.range n).any fun i => (T i).1 ≤ r && r ≤ (T i).2
/-- What the comparison of the search answers. -/
def cmpW (lo hi r : Int) : Int := if hi < r then -1 else if r < lo then 1 else 0

set_option maxHeartbeats 400000 in
theorem in1_any (lo hi r : Int) (w : World) :
    Calls Tryz.prog 82 #[.agg #[.int .i32 lo, .int .i32 hi], .int .i32 r] w fun e w' => e = .returned (.int .i64 (cmpW lo hi r)) ∧ Sees w w' := by
  unfold cmpW
  by_cases h1 : hi < r
  · go_enter Tryz.func82, Tryz.ntmps82
    go_wp2
    go_ret
    exact ⟨by simp [h1], (Sees.refl _).alloc _⟩
  by_cases h2 : r < lo
  · go_enter Tryz.func82, Tryz.ntmps82
    go_wp2
    go_ret
    exact ⟨by simp [h1, h2], (Sees.refl _).alloc _⟩
  · go_enter Tryz.func82, Tryz.ntmps82
    go_wp2
    go_ret
    exact ⟨by simp [h1, h2], (Sees.refl _).alloc _⟩

section
variable {n : Nat} {T : Nat → Int × Int} {r : Int}
theorem below_mid {m : Nat} (hs : ∀ i j, i < j → j < n → (T i).2 < (T j).1) (hl : ∀ i, i < n → (T i).1 ≤ (T i).2) (hm : m < n) (h : (T m).2 < r) {k : Nat} (hk : k ≤ m) : (T k).2 < r := by
  rcases Nat.lt_or_eq_of_le hk with h1 | rfl
  · have := hs k m h1 hm; have := hl m hm; omega
  · exact h
theorem above_mid {m : Nat} (hs : ∀ i j, i < j → j < n → (T i).2 < (T j).1) (hl : ∀ i, i < n → (T i).1 ≤ (T i).2) (h : ¬ (T m).2 < r) {k : Nat} (hk : m ≤ k) (hk2 : k < n) : r ≤ (T k).2 := by
  rcases Nat.lt_or_eq_of_le hk with h1 | rfl
  · have := hs m k h1 hk2; have := hl k hk2; omega
  · omega
theorem search_none (hs : ∀ i j, i < j → j < n → (T i).2 < (T j).1) (hl : ∀ i, i < n → (T i).1 ≤ (T i).2) (h : ∀ k, k < n → (T k).2 < r) : inTab n T r = false := by
  unfold inTab
  rw [List.any_eq_false]
  intro k hk
  have := h k (List.mem_range.1 hk)
  simp; omega
theorem search_end {i : Nat} (hs : ∀ i j, i < j → j < n → (T i).2 < (T j).1) (hl : ∀ i, i < n → (T i).1 ≤ (T i).2) (hin : i ≤ n) (hi : ∀ k, k < i → (T k).2 < r) (hj : ∀ k, i ≤ k → k < n → r ≤ (T k).2) :
    (i < n → cmpW (T i).1 (T i).2 r = 0 → inTab n T r = true) ∧ (i < n → ¬ cmpW (T i).1 (T i).2 r = 0 → inTab n T r = false) := by
  constructor
  · intro h hc
    unfold inTab
    rw [List.any_eq_true]
    refine ⟨i, List.mem_range.2 h, ?_⟩
    have := hj i (Nat.le_refl _) h
    unfold cmpW at hc
    rw [if_neg (by omega)] at hc
    split at hc
    · cases hc
    · simp; omega
  · intro h hc
    unfold inTab
    rw [List.any_eq_false]
    intro k hk
    have hk := List.mem_range.1 hk
    rcases Nat.lt_trichotomy k i with h1 | rfl | h1
    · have := hi k h1; simp; omega
    · intro hh
      simp at hh
      exact hc (by unfold cmpW; rw [if_neg (by omega), if_neg (by omega)])
    · have := hs i k h1 hk
      have := hj i (Nat.le_refl _) h
      unfold cmpW at hc
      rw [if_neg (by omega)] at hc
      by_cases h2 : r < (T i).1
      · have := hl i h; simp; omega
      · rw [if_neg h2] at hc; exact absurd rfl hc
end

set_option maxHeartbeats 400000 in
theorem search_any (b n cap : Nat) (T : Nat → Int × Int) (r : Int) (w : World) (hn : n ≤ 1000)
    (hT : ∀ (W : World) (i : Nat), Sees w W → i < n → W.cell? ⟨b, i * 2, none⟩ = some (.int .i32 (T i).1) ∧ W.cell? ⟨b, i * 2 + 1, none⟩ = some (.int .i32 (T i).2))
    (hs : ∀ i j, i < j → j < n → (T i).2 < (T j).1) (hl : ∀ i, i < n → (T i).1 ≤ (T i).2) :
    Calls Tryz.prog 81 #[.slice (some ⟨b, 0, none⟩) n cap, .int .i32 r, .func (.func 82) #[] #[]] w
      fun e w' => ∃ i : Int, e = .returned (.tuple #[.int .i64 i, .bool (inTab n T r)]) ∧ Sees w w' := by
  go_enter Tryz.func81, Tryz.ntmps81
  go_wp2
  go_loopw [9, 10] (fun x y wr => ∃ i j : Nat, i ≤ j ∧ j ≤ n ∧ x = .int .i64 i ∧ y = .int .i64 j ∧ (∀ k, k < i → (T k).2 < r) ∧ (∀ k, j ≤ k → k < n → r ≤ (T k).2) ∧ Sees w wr) (fun x y _ => (intOf y).toNat - (intOf x).toNat)
  case atStart => exact ⟨0, n, by omega, by omega, rfl, rfl, fun k hk => by omega, fun k _ _ => by omega, Sees.refl _⟩
  case round =>
    obtain ⟨i, j, hij, hjn, rfl, rfl, hi, hj, hS⟩ := hrel
    by_cases hlt : i < j
    · have hi' := Lib.hid hi
      have hj' := Lib.hid hj
      have hs' := Lib.hid hs
      have hl' := Lib.hid hl
      clear hi hj hs hl
      have hm : (i + j) / 2 < n := by omega
      have hm1 : i ≤ (i + j) / 2 := by omega
      have hm2 : (i + j) / 2 < j := by omega
      have h0 : (T ((i + j) / 2)).2 < r ∨ ¬ (T ((i + j) / 2)).2 < r := by omega
      rcases h0 with h0 | h0
      · have hv := in1_any (T ((i + j) / 2)).1 (T ((i + j) / 2)).2 r
        rw [show cmpW (T ((i + j) / 2)).1 (T ((i + j) / 2)).2 r = -1 by simp [cmpW, h0]] at hv
        have H := Lib.hid hv; clear hv
        have H0 := Lib.hid h0; clear h0
        go_wp2_with fail; refine (H.out _).mono ?_; rintro e w1 ⟨rfl, hs1⟩; have hcw1 := (hs1).cells
        go_wp2
        go_roundw
        case rel => exact ⟨(i + j) / 2 + 1, j, by omega, hjn, by go_num, rfl, fun k hk => below_mid hs'.out hl'.out hm H0.out (by omega), hj'.out, hS.trans hs1⟩
        case measure => simp [intOf]; omega
      · have hv := in1_any (T ((i + j) / 2)).1 (T ((i + j) / 2)).2 r
        obtain ⟨c, hc, hc0⟩ : ∃ c, cmpW (T ((i + j) / 2)).1 (T ((i + j) / 2)).2 r = c ∧ 0 ≤ c := ⟨_, rfl, by unfold cmpW; rw [if_neg h0]; split <;> omega⟩
        rw [hc] at hv
        have H := Lib.hid hv; clear hv hc
        have H0 := Lib.hid h0; clear h0
        go_wp2_with fail; refine (H.out _).mono ?_; rintro e w1 ⟨rfl, hs1⟩; have hcw1 := (hs1).cells
        go_wp2
        go_roundw
        case rel => exact ⟨i, (i + j) / 2, by omega, by omega, rfl, by go_num, hi'.out, fun k hk hk2 => above_mid hs'.out hl'.out (by have := H0.out; omega) hk hk2, hS.trans hs1⟩
        case measure => simp [intOf]; omega
    · obtain rfl : i = j := by omega
      have hfin := search_end (r := r) hs hl hjn hi hj
      have Hi := Lib.hid hi; clear hi
      have Hj := Lib.hid hj; clear hj
      have Hs := Lib.hid hs; clear hs
      have Hl := Lib.hid hl; clear hl
      by_cases hin : i < n
      · rcases Decidable.em (cmpW (T i).1 (T i).2 r = 0) with h0 | h0
        · have hv := in1_any (T i).1 (T i).2 r
          rw [h0] at hv
          have Hf := Lib.hid (hfin.1 hin h0)
          have H := Lib.hid hv; clear hv hfin h0
          go_wp2_with fail; refine (H.out _).mono ?_; rintro e w1 ⟨rfl, hs1⟩; have hcw1 := (hs1).cells
          go_wp2
          go_ret2
          exact ⟨i, by rw [Hf.out]; rfl, hS.trans hs1⟩
        · have hv := in1_any (T i).1 (T i).2 r
          obtain ⟨c, hc, hc0⟩ : ∃ c, cmpW (T i).1 (T i).2 r = c ∧ (c == 0) = false := ⟨_, rfl, by simpa using h0⟩
          rw [hc] at hv
          have Hf := Lib.hid (hfin.2 hin h0)
          have H := Lib.hid hv; clear hv hfin h0 hc
          go_wp2_with fail; refine (H.out _).mono ?_; rintro e w1 ⟨rfl, hs1⟩; have hcw1 := (hs1).cells
          go_wp2
          go_ret2
          exact ⟨i, by rw [Hf.out]; rfl, hS.trans hs1⟩
      · obtain rfl : i = n := by omega
        have Hf := Lib.hid (search_none Hs.out Hl.out Hi.out)
        clear hfin
        go_wp2
        go_ret2
        exact ⟨_, by rw [Hf.out]; rfl, hS⟩

set_option maxHeartbeats 400000 in
theorem in_any (b n cap : Nat) (T : Nat → Int × Int) (r : Int) (w : World) (hn : n ≤ 1000)
    (hT : ∀ (W : World) (i : Nat), Sees w W → i < n → W.cell? ⟨b, i * 2, none⟩ = some (.int .i32 (T i).1) ∧ W.cell? ⟨b, i * 2 + 1, none⟩ = some (.int .i32 (T i).2))
    (hs : ∀ i j, i < j → j < n → (T i).2 < (T j).1) (hl : ∀ i, i < n → (T i).1 ≤ (T i).2) :
    Calls Tryz.prog 70 #[.slice (some ⟨b, 0, none⟩) n cap, .int .i32 r] w fun e w' => e = .returned (.bool (inTab n T r)) ∧ Sees w w' := by
  have Hs := Lib.hid (search_any b n cap T r w hn hT hs hl)
  clear hs hl hT
  go_enter Tryz.func70, Tryz.ntmps70
  go_wp2_with fail
  refine Hs.out.mono ?_
  rintro e w1 ⟨i, rfl, hs1⟩
  go_wp2
  go_ret
  exact ⟨rfl, hs1⟩

/-- The two tables of the program's text. -/
def marksL : List (Int × Int) := [(768, 879), (1155, 1161), (1425, 1469), (1552, 1562), (1611, 1631), (1750, 1756), (3633, 3633), (3636, 3642), (3655, 3662), (6832, 6911), (7616, 7679), (8203, 8207), (8400, 8447), (12330, 12335), (12441, 12442), (65024, 65039), (65056, 65071), (917760, 917999)]
def wideL : List (Int × Int) := [(4352, 4447), (9001, 9002), (11904, 12329), (12336, 12350), (12353, 12440), (12443, 13311), (13312, 19903), (19968, 42191), (43360, 43391), (44032, 55203), (63744, 64255), (65072, 65135), (65280, 65376), (65504, 65510), (127744, 128591), (128640, 128767), (129280, 129535), (131072, 196605), (196608, 262141)]
def marksT (i : Nat) : Int × Int := marksL.getD i (0, 0)
def wideT (i : Nat) : Int × Int := wideL.getD i (0, 0)

/-- The two variables hold the tables. -/
def Tabs (w : World) : Prop :=
  (∀ i, i < 18 → w.cell? ⟨0, i * 2, none⟩ = some (.int .i32 (marksT i).1) ∧ w.cell? ⟨0, i * 2 + 1, none⟩ = some (.int .i32 (marksT i).2)) ∧
  (∀ i, i < 19 → w.cell? ⟨1, i * 2, none⟩ = some (.int .i32 (wideT i).1) ∧ w.cell? ⟨1, i * 2 + 1, none⟩ = some (.int .i32 (wideT i).2))
theorem Tabs.sees {w W : World} (h : Tabs w) (hs : Sees w W) : Tabs W :=
  ⟨fun i hi => ⟨hs.cell (h.1 i hi).1, hs.cell (h.1 i hi).2⟩, fun i hi => ⟨hs.cell (h.2 i hi).1, hs.cell (h.2 i hi).2⟩⟩

theorem marks_order : (∀ i j, i < j → j < 18 → (marksT i).2 < (marksT j).1) ∧ ∀ i, i < 18 → (marksT i).1 ≤ (marksT i).2 := by
  have h : ∀ j, j < 18 → (∀ i, i < j → (marksT i).2 < (marksT j).1) ∧ (marksT j).1 ≤ (marksT j).2 := by decide
  exact ⟨fun i j hij hj => (h j hj).1 i hij, fun i hi => (h i hi).2⟩
theorem wide_order : (∀ i j, i < j → j < 19 → (wideT i).2 < (wideT j).1) ∧ ∀ i, i < 19 → (wideT i).1 ≤ (wideT i).2 := by
  have h : ∀ j, j < 19 → (∀ i, i < j → (wideT i).2 < (wideT j).1) ∧ (wideT j).1 ≤ (wideT j).2 := by decide
  exact ⟨fun i j hij hj => (h j hj).1 i hij, fun i hi => (h i hi).2⟩

theorem inMarks_any (r : Int) (w : World) (h : Tabs w) (cap : Nat) : Calls Tryz.prog 70 #[.slice (some ⟨0, 0, none⟩) 18 cap, .int .i32 r] w fun e w' => e = .returned (.bool (inTab 18 marksT r)) ∧ Sees w w' :=
  in_any _ 18 cap marksT r w (by omega) (fun W i hW hi => ⟨hW.cell (h.1 i hi).1, hW.cell (h.1 i hi).2⟩) marks_order.1 marks_order.2
theorem inWide_any (r : Int) (w : World) (h : Tabs w) (cap : Nat) : Calls Tryz.prog 70 #[.slice (some ⟨1, 0, none⟩) 19 cap, .int .i32 r] w fun e w' => e = .returned (.bool (inTab 19 wideT r)) ∧ Sees w w' :=
  in_any _ 19 cap wideT r w (by omega) (fun W i hW hi => ⟨hW.cell (h.2 i hi).1, hW.cell (h.2 i hi).2⟩) wide_order.1 wide_order.2

/-- Is a rune printed? -/
def prn (r : Int) : Bool := !(r < 32 || (127 ≤ r && r < 160) || (55296 ≤ r && r ≤ 57343) || 1114111 < r)
/-- How many columns a rune has. -/
def wOf (r : Int) : Int := if prn r then (if inTab 18 marksT r then 0 else if inTab 19 wideT r then 2 else 1) else -1

set_option maxHeartbeats 800000 in
theorem widthOf_any (r : Int) (w : World) (h : Tabs w) :
    Calls Tryz.prog 57 #[.int .i32 r] w fun e w' => e = .returned (.int .i64 (wOf r)) ∧ Sees w w' := by
  have H := Lib.hid h; clear h
  by_cases hp : prn r = true
  · have Hp : (¬ r < 32) ∧ (r < 127 ∨ 160 ≤ r) ∧ (r < 55296 ∨ 57343 < r) ∧ r ≤ 1114111 := by simp [prn] at hp; omega
    by_cases hm : inTab 18 marksT r = true
    · have hv := inMarks_any r
      rw [hm] at hv
      have Hv := Lib.hid hv; clear hv
      have Hf : Hid (wOf r = 0) := by unfold Hid wOf; rw [if_pos hp, if_pos hm]
      clear hp hm
      obtain ⟨h1, h2, h3, h4⟩ := Hp
      go_enter Tryz.func57, Tryz.ntmps57
      go_wp2_with fail
      all_goals
        refine (Hv.out _ H.out _).mono ?_
        rintro e w1 ⟨rfl, hs1⟩
        go_wp2
        go_ret
        exact ⟨by rw [Hf.out]; rfl, hs1⟩
    · have hv := inMarks_any r
      rw [Bool.not_eq_true] at hm
      rw [hm] at hv
      have Hv := Lib.hid hv; clear hv
      by_cases hw : inTab 19 wideT r = true
      · have hv := inWide_any r
        rw [hw] at hv
        have Hv2 := Lib.hid hv; clear hv
        have Hf : Hid (wOf r = 2) := by unfold Hid wOf; rw [if_pos hp, hm, hw]; rfl
        clear hp hm hw
        obtain ⟨h1, h2, h3, h4⟩ := Hp
        go_enter Tryz.func57, Tryz.ntmps57
        go_wp2_with fail
        all_goals
          refine (Hv.out _ H.out _).mono ?_
          rintro e w1 ⟨rfl, hs1⟩
          go_wp2_with fail
          refine (Hv2.out _ (H.out.sees hs1) _).mono ?_
          rintro e w2 ⟨rfl, hs2⟩
          go_wp2
          go_ret
          exact ⟨by rw [Hf.out]; rfl, hs1.trans hs2⟩
      · have hv := inWide_any r
        rw [Bool.not_eq_true] at hw
        rw [hw] at hv
        have Hv2 := Lib.hid hv; clear hv
        have Hf : Hid (wOf r = 1) := by unfold Hid wOf; rw [if_pos hp, hm, hw]; rfl
        clear hp hm hw
        obtain ⟨h1, h2, h3, h4⟩ := Hp
        go_enter Tryz.func57, Tryz.ntmps57
        go_wp2_with fail
        all_goals
          refine (Hv.out _ H.out _).mono ?_
          rintro e w1 ⟨rfl, hs1⟩
          go_wp2_with fail
          refine (Hv2.out _ (H.out.sees hs1) _).mono ?_
          rintro e w2 ⟨rfl, hs2⟩
          go_wp2
          go_ret
          exact ⟨by rw [Hf.out]; rfl, hs1.trans hs2⟩
  · have Hp : r < 32 ∨ (127 ≤ r ∧ r < 160) ∨ (55296 ≤ r ∧ r ≤ 57343) ∨ 1114111 < r := by simp [prn] at hp; omega
    have Hf : Hid (wOf r = -1) := by unfold Hid wOf; rw [if_neg hp]
    clear hp
    rcases Hp with h1 | ⟨h1, h2⟩ | ⟨h1, h2⟩ | h1
    all_goals
      go_enter Tryz.func57, Tryz.ntmps57
      go_wp2_with fail
      all_goals
        go_ret
        exact ⟨by rw [Hf.out]; rfl, Sees.refl _⟩
end Go.Proofs.YthcndmchlpohpaaGreatDoor
