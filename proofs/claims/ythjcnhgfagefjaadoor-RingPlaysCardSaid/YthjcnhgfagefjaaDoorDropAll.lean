/- Taking lines away at the front. Taking all lines away. No condition. -/
import Derived.Test.YthjcnhgfagefjaaDoorSet
namespace Go.Proofs.YthjcnhgfagefjaaDoor
set_option linter.unusedVariables false
set_option linter.unusedSimpArgs false
open Go.RowKit

theorem wpList_append_lines {ops : Array Oper} {rest : List Oper} {o : Oper} {a : Act} {Q : Exit → Act → World → Prop} {w : World} (hgd : o.guard = none) (s x : Operand)
    (ho : o.op = .call { callee := .builtin .append, args := #[s, x], argTypes := #[30, 30] }) (hs : a.eval s = .slice none 0 0) (ad : Addr) (m c : Nat) (news : List Value) (hx : a.eval x = .slice (some ad) m c)
    (hl : news.length = m * 2) (hnews : ∀ j u, news[j]? = some u → w.cell? (ad.add j) = some u) (h1 : ∀ u ∈ news, u.oneCell' = true) (hm : m ≤ 1000000)
    (h : ∀ v' w', w'.ownsRow w.heap.size 36 2 v' m news → Sees w w' → wpList Tryd.prog ops Q rest (a.put o.dst v') w') : wpList Tryd.prog ops Q (o :: rest) a w := by
  obtain ⟨i0, hi, hz0, hz1, hz2⟩ := info_parts infoLine
  refine wpList_append_own _ hgd s x 30 ho w.heap.size 36 i0 _ 2 32 Tryd.underlying30 hi hz0 hz1 hz2 rfl (by decide) (.slice none 0 0) 0 [] hs ⟨rfl, .inl ⟨rfl, rfl⟩⟩ ad m c news hx hl hnews h1 (by unfold maxLen; omega) (by omega) (Nat.le_refl _) ?_
  intro v' w' h2 h3 _
  exact h v' w' (by simpa using h2) (sees_grown (Sees.refl w) h3 (fun k hk => by cases hk))

theorem row_mono {w : World} {base : Nat} {e : TypeId} {size : Nat} {v : Value} {n : Nat} {xs : List Value} (h : w.ownsRow base e size v n xs) : w.ownsRow 0 e size v n xs := by
  obtain ⟨h1, h2⟩ := h
  refine ⟨h1, ?_⟩
  rcases h2 with h2 | ⟨g, cap, cur, hv, hb', hr⟩
  · exact .inl h2
  · exact .inr ⟨g, cap, cur, hv, Nat.zero_le _, hr⟩
theorem row_some {w : World} {base : Nat} {e : TypeId} {size : Nat} {v : Value} {n : Nat} {xs : List Value} (h : w.ownsRow base e size v n xs) (hn : 0 < n) : ∃ g c, v = .slice (some ⟨g, 0, none⟩) n c ∧ base ≤ g := by
  rcases h.2 with ⟨_, h⟩ | ⟨g, cap, cur, rfl, hb, _⟩
  · omega
  · exact ⟨_, _, rfl, hb⟩

set_option maxRecDepth 100000 in
set_option maxHeartbeats 1000000 in
theorem drop_some (F : Nat → Prop) (p : Nat) (most gone : Int) (ls : List Ln) (k : Nat) (w : World) (h : Page F w p most gone ls) (hm : 0 < most ∧ most ≤ 1024 ∧ 0 ≤ gone ∧ gone ≤ 1024) (hk : k < ls.length) (hn : ls.length ≤ 1024) :
    Calls Tryd.prog 58 #[.pointer (some ⟨p, 0, none⟩), .int .i64 k] w fun e w' => e = .returned (.int .i64 0) ∧ Page (fun b => F b ∨ w.heap.size ≤ b) w' p most (gone + k) (ls.drop k) ∧ Keeps F w w' := by
  obtain ⟨Fp, sv, hp, hown⟩ := h
  obtain ⟨g, c, hsv⟩ := hown.some (by omega)
  subst hsv
  have H := Lib.hid hp
  have HL := Lib.hid hown
  have HF := Lib.hid Fp
  have Hm := Lib.hid hm
  clear hp hown Fp hm
  obtain ⟨n, hnc⟩ : ∃ n, n = ls.length := ⟨_, rfl⟩
  rw [← hnc] at H HL hk hn
  have Hnc := Lib.hid hnc
  clear hnc
  have h1 : decide ((k : Int) < 0) = false := decide_eq_false (by omega)
  have h2 : decide ((k : Int) > (n : Int)) = false := decide_eq_false (by omega)
  go_enter Tryd.func58, Tryd.ntmps58
  go_wp2_with fail
  refine (zero_at _ p _ _ _ H.out Hm.out.1).mono ?_
  rintro e w1 ⟨rfl, hs⟩
  have q := (H.out.sees hs).c2
  have Hs := Lib.hid hs; clear hs
  obtain ⟨xs, ⟨hx1, hx2⟩, hF, hin⟩ := HL.out.sees Hs.out
  rcases hx2 with ⟨h, _⟩ | ⟨g', cap, cur, hv, _, hrow, q1, q2, q3, q4⟩
  · cases h
  simp only [Value.slice.injEq, Option.some.injEq, Addr.mk.injEq, and_true] at hv
  obtain ⟨rfl, hnl, rfl⟩ := hv
  clear hnl
  rw [← Hnc.out] at hx1 q1 q4
  have hat : ∀ j u, (xs.drop (k * 2))[j]? = some u → w1.cell? ((⟨g, k * 2, none⟩ : Addr).add j) = some u := by
    intro j u hu
    rw [List.getElem?_drop] at hu
    rw [show (⟨g, k * 2, none⟩ : Addr).add j = ⟨g, k * 2 + j, none⟩ by unfold Addr.add; split <;> simp_all]
    rw [cell_of_row _ _ _ _ _ _ hrow]
    have hj := (List.getElem?_eq_some_iff.1 hu).1
    rw [← q4, List.getElem?_take, if_pos (by omega)] at hu
    rw [← hu]; simp
  have h1c : ∀ u ∈ xs.drop (k * 2), u.oneCell' = true := fun u hu => hin.one u (List.mem_of_mem_drop hu)
  have hlen : (xs.drop (k * 2)).length = (n - k) * 2 := by rw [List.length_drop, hx1, Nat.sub_mul]
  have hnil : w1.ownsRow w1.heap.size 36 2 (.slice none 0 0) 0 [] := ⟨rfl, .inl ⟨rfl, rfl⟩⟩
  have HX := Lib.hid hin
  have HFx := Lib.hid hF
  have Hat := Lib.hid hat
  have H1c := Lib.hid h1c
  have Hlen := Lib.hid hlen
  have Hnil := Lib.hid hnil
  have Hp1 := Lib.hid (H.out.sees Hs.out)
  obtain ⟨i0, hi, hz0, hz1, hz2⟩ := info_parts infoLine
  have Hi := Lib.hid hi
  have Hz0 := Lib.hid hz0
  have Hz1 := Lib.hid hz1
  have Hz2 := Lib.hid hz2
  clear hin hF hat h1c hlen hnil hrow q2 q3 q4 hx1 hi hz0 hz1 hz2
  go_wp2_with (at_builtin; refine wpList_append_lines rfl (.const (.slice none 0 0)) (.tmp 26) rfl rfl ⟨g, k * 2, none⟩ (n - k) (c - k) (xs.drop (k * 2)) rfl Hlen.out Hat.out H1c.out (by omega) ?_; intro v' w2 ho hs2; obtain ⟨g2, cc, rfl, hg2⟩ := row_some ho (by omega); have hp2 := Hp1.out.sees hs2; have d1 := hp2.c1; have d2 := hp2.c2; have fr := hp2.fr; have Hp2 := Lib.hid hp2; have Ho := Lib.hid ho; have Hs2 := Lib.hid hs2; have Hg2 := Lib.hid hg2; have hw1 : 0 ≤ gone := Hm.out.2.2.1; have hw2 : gone ≤ 1024 := Hm.out.2.2.2; clear hp2 ho hs2 hg2 q)
  go_ret
  have hz := Hs.out.size
  have hp1 := Hp1.out.lt
  have hg2 := Hg2.out
  have hpw := H.out.lt
  have hk2 : ∀ u v, Keeps (fun b => b = p) w2 ((w2.setCell ⟨p, 2, none⟩ u).setCell ⟨p, 1, none⟩ v) := fun u v =>
    Keeps.setCell (F := fun b => b = p) (Keeps.setCell (F := fun b => b = p) (Keeps.refl _ w2) (p := ⟨p, 2, none⟩) (fun _ => rfl) _) (p := ⟨p, 1, none⟩) (fun _ => rfl) _
  have hl2 : linesIn (fun b => ((F b ∨ w.heap.size ≤ b) ∧ b ≠ p) ∧ (Value.slice (some ⟨g2, 0, none⟩) (n - k) cc).ownBlock ≠ some b) w1 (xs.drop (k * 2)) (ls.drop k) := by
    refine (HX.out.drop k).mono fun b hb h => ⟨⟨.inl h.1.1, h.1.2⟩, fun e => ?_⟩
    have e2 : g2 = b := by cases e; rfl
    omega
  refine ⟨rfl, ⟨.inl HF.out, .slice (some ⟨g2, 0, none⟩) (n - k) cc, ?_, xs.drop (k * 2), ?_, ?_, ?_⟩, ?_⟩
  · unfold PgAt
    rw [heap_setCell_same _ _ _ _ _ _ (heap_setCell_same _ _ _ _ _ _ Hp2.out)]
    rfl
  · rw [List.length_drop, ← Hnc.out]
    exact row_keeps (row_mono Ho.out) (hk2 _ _) (fun b e e3 => by
      have e2 : g2 = b := by cases e; rfl
      have e4 : b = p := e3
      omega)
  · intro b e
    have e2 : g2 = b := by cases e; rfl
    exact ⟨.inr (by omega), by omega⟩
  · exact (hl2.keeps (Keeps.of_sees (F := fun _ => False) Hs2.out) (fun _ _ h => h)).keeps (hk2 _ _) (fun b hb => hb.1.2)
  · exact ((Keeps.of_sees (Hs.out.trans Hs2.out)).setCell (p := ⟨p, 2, none⟩) (fun _ => HF.out) _).setCell (p := ⟨p, 1, none⟩) (fun _ => HF.out) _
end Go.Proofs.YthjcnhgfagefjaaDoor

namespace Go.Proofs.YthjcnhgfagefjaaDoor
set_option linter.unusedVariables false
set_option linter.unusedSimpArgs false
open Go.RowKit

set_option maxRecDepth 100000 in
set_option maxHeartbeats 1000000 in
theorem drop_all (F : Nat → Prop) (p : Nat) (most gone : Int) (ls : List Ln) (w : World) (h : Page F w p most gone ls) (hm : 0 < most ∧ most ≤ 1024 ∧ 0 ≤ gone ∧ gone ≤ 1024) (hn : ls.length ≤ 1024) :
    Calls Tryd.prog 58 #[.pointer (some ⟨p, 0, none⟩), .int .i64 ls.length] w fun e w' => e = .returned (.int .i64 0) ∧ Page F w' p most (gone + ls.length) [] ∧ Keeps F w w' := by
  obtain ⟨Fp, sv, hp, hown⟩ := h
  have hcap : ∃ a c, sv = .slice a ls.length c ∧ ls.length ≤ c := by
    obtain ⟨xs, ⟨_, h⟩, _⟩ := hown
    rcases h with ⟨rfl, h⟩ | ⟨g, cap, cur, rfl, _, _, h, _⟩
    · exact ⟨none, 0, by rw [h], by omega⟩
    · exact ⟨_, _, rfl, h⟩
  obtain ⟨a, c, rfl, hcap⟩ := hcap
  have H := Lib.hid hp
  have HF := Lib.hid Fp
  have Hm := Lib.hid hm
  clear hp hown Fp hm
  generalize ls.length = n at *
  have h1 : decide ((n : Int) < 0) = false := decide_eq_false (by omega)
  have h2 : decide ((n : Int) > (n : Int)) = false := decide_eq_false (by omega)
  have hw1 : 0 ≤ gone := Hm.out.2.2.1
  have hw2 : gone ≤ 1024 := Hm.out.2.2.2
  rcases a with _ | ⟨g, o, q⟩
  all_goals
    go_enter Tryd.func58, Tryd.ntmps58
    go_wp2_with fail
    refine (zero_at _ p _ _ _ H.out Hm.out.1).mono ?_
    rintro e w1 ⟨rfl, hs⟩
    have Hp1 := Lib.hid (H.out.sees hs)
    have d1 := (H.out.sees hs).c1
    have d2 := (H.out.sees hs).c2
    have fr := (H.out.sees hs).fr
    have Hs := Lib.hid hs; clear hs
    go_wp2
    all_goals
      go_ret
      refine ⟨rfl, ⟨HF.out, .slice none 0 0, ?_, OwnL.nil _ _⟩, ((Keeps.of_sees Hs.out).setCell (p := ⟨p, 2, none⟩) (fun _ => HF.out) _).setCell (p := ⟨p, 1, none⟩) (fun _ => HF.out) _⟩
      unfold PgAt
      rw [heap_setCell_same _ _ _ _ _ _ (heap_setCell_same _ _ _ _ _ _ Hp1.out)]
      rfl
end Go.Proofs.YthjcnhgfagefjaaDoor
