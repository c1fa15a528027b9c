/- Any calls of a view and a history: ViewPlays. Calls of a view that came in. No condition. -/
import Derived.Test.YtpicffaghoggdaaDoorVxC
import Derived.Test.YtpicffaghoggdaaDoorElT
import Derived.Deep.CutBlock
import Derived.Deep.CutRange
import Derived.Test.YtpicffaghoggdaaDoorOpenE
namespace Go.Proofs.YtpicffaghoggdaaDoor
set_option linter.unusedVariables false
set_option linter.unusedSimpArgs false
open Go.RowKit

/-- A call of a view. -/
structure Act32 where
  what : Int
  num : Int
def act32El : El Act32 where
  ty := 88
  n := 2
  n0 := by decide
  rel _ _ vs x := vs = [.int .i64 x.what, .int .i64 x.num]
  own _ _ vs x := vs = [.int .i64 x.what, .int .i64 x.num]
  len := by rintro F w vs x rfl; rfl
  one := by rintro F w vs x rfl v hv; simp at hv; rcases hv with rfl | rfl <;> rfl
  keeps h _ _ := h
  mono h _ := h
  own_rel h := h
  own_keeps h _ _ := h
  own_mono h _ := h
theorem El.Rd.act32 {F : Nat → Prop} {w : World} {ao : Option Addr} {n c k : Nat} {ls : List Act32} (h : act32El.Rd F w (.slice ao n c) ls) (hk : k < n) : ∃ b o l, ao = some ⟨b, o, none⟩ ∧ F b ∧ ls[k]? = some l ∧ w.cell? ⟨b, o + k * 2, none⟩ = some (.int .i64 l.what) ∧ w.cell? ⟨b, o + k * 2 + 1, none⟩ = some (.int .i64 l.num) := by
  obtain ⟨b, o, l, vs, e, hb, hl, rfl, h6⟩ := h.at_ hk
  exact ⟨b, o, l, e, hb, hl, h6 0 _ rfl, h6 1 _ rfl⟩
theorem VpSt.swap {w1 W : World} {Z Z' : Nat → Prop} {vb hb rows back q rows' back' : Nat} {most first : Int} {ls : List Ln} (h : VpSt w1 W Z vb hb rows back most first ls) (hq : VwAt W q rows' back') (hZ : Z q) (h1 : ∀ c, Z' c → Z c) (h2 : ¬ Z' q) (h3 : w1.heap.size ≤ q) (h4 : 1 ≤ rows') (h5 : rows' ≤ 1000) (h6 : back' ≤ 1048576) : VpSt w1 W Z' q hb rows' back' most first ls := by
  obtain ⟨F, g1, g2, g3, g4, g5, g6⟩ := h
  exact ⟨F, g1, hq, fun c hc => ⟨fun e => (g3 c hc).2.2 (e ▸ hZ), (g3 c hc).2.1, fun e => (g3 c hc).2.2 (h1 c e)⟩, h2, fun c hc => g5 c (h1 c hc), h3, h4, h5, h6⟩
theorem VpSt.vw {w1 W : World} {Z : Nat → Prop} {vb hb rows back : Nat} {most first : Int} {ls : List Ln} (h : VpSt w1 W Z vb hb rows back most first ls) : VwAt W vb rows back ∧ 1 ≤ rows ∧ rows ≤ 1000 ∧ back ≤ 1048576 ∧ w1.heap.size ≤ vb := by
  obtain ⟨F, g1, g2, g3, g4, g5, g6, g7, g8, g9⟩ := h
  exact ⟨g2, g7, g8, g9, g6⟩
/-- Behind a call of 'does': what it gave lies in two new blocks. -/
def MidV (w1 W : World) (vb hb R1 R2 : Nat) (m : Int) (top : Int) (s14 s15 s16 : Value) : Prop :=
  ∃ (rows back f : Nat) (ls : List Ln) (Z Zl : Nat → Prop) (a : Option Addr) (c b14 b15 : Nat), s14 = .pointer (some ⟨b14, 0, none⟩) ∧ s15 = .pointer (some ⟨b15, 0, none⟩) ∧ s16 = .bool true ∧ VpSt w1 W Z vb hb rows back m f ls ∧ lnEl.Rd Zl W (.slice a ls.length c) ls ∧ (∀ c, Zl c → Z c) ∧
    RvAt W b14 rows back ∧ HrAt W b15 m f (.slice a ls.length c) ∧ (∃ p g, RvAt W R1 p g) ∧ (∃ p g v, HrAt W R2 p g v) ∧ (Z R1 ∧ Z R2 ∧ ¬ Zl R1 ∧ ¬ Zl R2) ∧ (b14 ≠ R1 ∧ b14 ≠ R2 ∧ b15 ≠ R1 ∧ b15 ≠ R2) ∧ rows ≤ 20 ∧ back ≤ ls.length ∧ (f : Int) + ls.length ≤ top + 6
/-- While a region is walked: a view and a history, the reference's lines, and two boxes of the caller's. -/
def StV (w1 W : World) (Z Zl : Nat → Prop) (vb hb rows back f : Nat) (m : Int) (ls : List Ln) (v : Value) (R1 R2 : Nat) : Prop :=
  VpSt w1 W Z vb hb rows back m f ls ∧ lnEl.Rd Zl W v ls ∧ (∀ c, Zl c → Z c) ∧ (∃ p g, RvAt W R1 p g) ∧ (∃ p g v, HrAt W R2 p g v) ∧ Z R1 ∧ Z R2 ∧ ¬ Zl R1 ∧ ¬ Zl R2
def NwB (w1 W : World) (Z Zl : Nat → Prop) (R1 R2 lo b : Nat) : Prop := Z b ∧ ¬ Zl b ∧ w1.heap.size ≤ b ∧ b ≠ R1 ∧ b ≠ R2 ∧ lo ≤ b ∧ b < W.heap.size
section
variable {w1 W W' : World} {Z Zl : Nat → Prop} {vb hb rows back f R1 R2 lo b : Nat} {m : Int} {ls : List Ln} {v : Value}
theorem StV.alloc (h : StV w1 W Z Zl vb hb rows back f m ls v R1 R2) (hs : Sees W W') : ∃ Z', StV w1 W' Z' Zl vb hb rows back f m ls v R1 R2 ∧ (∀ c, Z c → Z' c) ∧ (∀ c, W.heap.size ≤ c → c < W'.heap.size → Z' c) := by
  obtain ⟨h1, h2, h3, ⟨p, g, h4⟩, ⟨p', g', v', h5⟩, h6, h7, h8, h9⟩ := h
  exact ⟨_, ⟨h1.more hs, h2.sees hs, fun c hc => .inl (h3 c hc), ⟨p, g, h4.sees hs⟩, ⟨p', g', v', h5.sees hs⟩, .inl h6, .inl h7, h8, h9⟩, fun c h => .inl h, fun c h1 h2 => .inr ⟨h1, h2⟩⟩
theorem StV.store {K : Nat → Prop} (h : StV w1 W Z Zl vb hb rows back f m ls v R1 R2) (hk : Keeps K W W') (hK : ∀ c, K c → Z c ∧ ¬ Zl c ∧ w1.heap.size ≤ c ∧ c ≠ R1 ∧ c ≠ R2) : StV w1 W' Z Zl vb hb rows back f m ls v R1 R2 := by
  obtain ⟨h1, h2, h3, ⟨p, g, h4⟩, ⟨p', g', v', h5⟩, h6⟩ := h
  exact ⟨h1.keeps hk (fun c hc => ⟨(hK c hc).1, (hK c hc).2.2.1⟩), h2.keeps hk (fun c hc e => (hK c e).2.1 hc), h3, ⟨p, g, h4.keeps hk (fun e => (hK _ e).2.2.2.1 rfl)⟩, ⟨p', g', v', h5.keeps hk (fun e => (hK _ e).2.2.2.2 rfl)⟩, h6⟩
theorem StV.call {Z' : Nat → Prop} {rows' back' f' : Nat} {ls' : List Ln} {v' : Value} (h : StV w1 W Z Zl vb hb rows back f m ls v R1 R2) (p1 : VpSt w1 W' Z' vb hb rows' back' m f' ls') (p2 : lnEl.Rd (fun c => Z' c ∧ (Zl c ∨ W.heap.size ≤ c)) W' v' ls') (p3 : ∀ c, Z c → Z' c) (p5 : Keeps (Chg w1 Z) W W') :
    StV w1 W' Z' (fun c => Z' c ∧ (Zl c ∨ W.heap.size ≤ c)) vb hb rows' back' f' m ls' v' R1 R2 := by
  obtain ⟨h1, h2, h3, ⟨p, g, h4⟩, ⟨p', g', v', h5⟩, h6, h7, h8, h9⟩ := h
  exact ⟨p1, p2, fun c hc => hc.1, ⟨p, g, h4.keeps p5 (fun e => e.1 h6)⟩, ⟨p', g', v', h5.keeps p5 (fun e => e.1 h7)⟩, p3 _ h6, p3 _ h7, fun e => by rcases e.2 with e | e; exact h8 e; have := h4.lt; omega, fun e => by rcases e.2 with e | e; exact h9 e; have := h5.lt; omega⟩
theorem NwB.new (h : StV w1 W Z Zl vb hb rows back f m ls v R1 R2) {Z' : Nat → Prop} (hz : ∀ c, W.heap.size ≤ c → c < W'.heap.size → Z' c) (hb0 : b = W.heap.size) (hs : W'.heap.size = W.heap.size + 1) (hlo : lo ≤ W.heap.size) : NwB w1 W' Z' Zl R1 R2 lo b := by
  obtain ⟨h1, h2, h3, ⟨p, g, h4⟩, ⟨p', g', v', h5⟩, h6, h7, h8, h9⟩ := h
  have a1 := h4.lt
  have a2 := h5.lt
  have a3 := h1.see.size
  refine ⟨hz b (by omega) (by omega), fun e => ?_, by omega, by omega, by omega, by omega, by omega⟩
  have := h1.zlt b (h3 b e)
  omega
theorem NwB.alloc (h : NwB w1 W Z Zl R1 R2 lo b) {Z' : Nat → Prop} (hz : ∀ c, Z c → Z' c) (hs : W.heap.size ≤ W'.heap.size) : NwB w1 W' Z' Zl R1 R2 lo b := ⟨hz b h.1, h.2.1, h.2.2.1, h.2.2.2.1, h.2.2.2.2.1, h.2.2.2.2.2.1, Nat.lt_of_lt_of_le h.2.2.2.2.2.2 hs⟩
theorem NwB.call (h : NwB w1 W Z Zl R1 R2 lo b) {Z' : Nat → Prop} (hz : ∀ c, Z c → Z' c) (hs : W.heap.size ≤ W'.heap.size) : NwB w1 W' Z' (fun c => Z' c ∧ (Zl c ∨ W.heap.size ≤ c)) R1 R2 lo b := ⟨hz b h.1, fun e => by rcases e.2 with e | e; exact h.2.1 e; have := h.2.2.2.2.2.2; omega, h.2.2.1, h.2.2.2.1, h.2.2.2.2.1, h.2.2.2.2.2.1, Nat.lt_of_lt_of_le h.2.2.2.2.2.2 hs⟩
theorem NwB.st (h : NwB w1 W Z Zl R1 R2 lo b) : Z b ∧ ¬ Zl b ∧ w1.heap.size ≤ b ∧ b ≠ R1 ∧ b ≠ R2 := ⟨h.1, h.2.1, h.2.2.1, h.2.2.2.1, h.2.2.2.2.1⟩
end
theorem wpH_three {P : Program} {l : List Oper} {Q : Exit → Act → World → Prop} {F : Nat → Prop} {w0 w : World} {a : Act} {f i j k : Nat} {D : List Nat} (hr : Region.ready .any l.toArray (dn l.length D) = [i, j, k]) (h1 : wpOp P l.toArray Q i (fun a' w' => Keeps F w0 w' ∧ wpH P l Q F w0 f (i :: D) a' w') a w) (h2 : wpOp P l.toArray Q j (fun a' w' => Keeps F w0 w' ∧ wpH P l Q F w0 f (j :: D) a' w') a w) (h3 : wpOp P l.toArray Q k (fun a' w' => Keeps F w0 w' ∧ wpH P l Q F w0 f (k :: D) a' w') a w) : wpH P l Q F w0 (f + 1) D a w := by
  refine ⟨(fun h => by rw [h] at hr; cases hr), fun x hx => ?_⟩
  rw [hr] at hx
  rw [dn_set]
  rcases List.mem_cons.1 hx with rfl | hx
  · exact h1
  · rcases List.mem_cons.1 hx with rfl | hx
    · exact h2
    · obtain rfl : x = k := by simpa using hx
      exact h3
/-- What holds at the head of a round. -/
def PvI (w1 W : World) (hb R1 R2 : Nat) (m : Int) (k : Nat) (vv : Value) : Prop :=
  ∃ (vb rows back f : Nat) (ls : List Ln) (Z Zl : Nat → Prop) (a : Option Addr) (c : Nat), vv = .pointer (some ⟨vb, 0, none⟩) ∧ VpSt w1 W Z vb hb rows back m f ls ∧ RvAt W R1 rows back ∧ HrAt W R2 m f (.slice a ls.length c) ∧ lnEl.Rd Zl W (.slice a ls.length c) ls ∧ (∀ c, Zl c → Z c) ∧ (Z R1 ∧ Z R2 ∧ ¬ Zl R1 ∧ ¬ Zl R2) ∧ rows ≤ 20 ∧ back ≤ ls.length ∧ f + ls.length ≤ 6 * k
set_option maxRecDepth 1000000 in
set_option maxHeartbeats 4000000 in
theorem viewPlays_o1 (r m : Nat) (v : Value) (acts : List Act32) (w : World) (ht : Tabs w) (ha : act32El.Rd (fun b => b < w.heap.size) w v acts) (h1 : r < 1) :
    Calls Tryd.prog 13 #[.int .u8 r, .int .u8 m, v] w fun e w' => e = .returned (.bool true) ∧ Sees w w' := by
  have Ht := Lib.hid ht
  obtain ⟨ao, ca, rfl, _⟩ := ha.slice'
  clear ht ha
  have d1 : decide ((r : Int) < 1) = true := decide_eq_true (by omega)
  go_enter Tryd.func13, Tryd.ntmps13
  go_wp2_with fail
  refine (known32 _ Ht.out).mono ?_
  rintro e w5 ⟨rfl, hs5⟩
  go_wp2
  go_ret
  exact ⟨by simp, hs5⟩
set_option maxRecDepth 1000000 in
set_option maxHeartbeats 4000000 in
theorem viewPlays_o2 (r m : Nat) (v : Value) (acts : List Act32) (w : World) (ht : Tabs w) (ha : act32El.Rd (fun b => b < w.heap.size) w v acts) (h1 : 1 ≤ r) (h2 : 12 < r) :
    Calls Tryd.prog 13 #[.int .u8 r, .int .u8 m, v] w fun e w' => e = .returned (.bool true) ∧ Sees w w' := by
  have Ht := Lib.hid ht
  obtain ⟨ao, ca, rfl, _⟩ := ha.slice'
  clear ht ha
  have d1 : decide ((r : Int) < 1) = false := decide_eq_false (by omega)
  have d2 : decide ((r : Int) > 12) = true := decide_eq_true (by omega)
  go_enter Tryd.func13, Tryd.ntmps13
  go_wp2_with fail
  refine (known32 _ Ht.out).mono ?_
  rintro e w5 ⟨rfl, hs5⟩
  go_wp2
  go_ret
  exact ⟨by simp, hs5⟩
set_option maxRecDepth 1000000 in
set_option maxHeartbeats 4000000 in
theorem viewPlays_o3 (r m : Nat) (v : Value) (acts : List Act32) (w : World) (ht : Tabs w) (ha : act32El.Rd (fun b => b < w.heap.size) w v acts) (h1 : 1 ≤ r) (h2 : r ≤ 12) (h3 : 20 < m) :
    Calls Tryd.prog 13 #[.int .u8 r, .int .u8 m, v] w fun e w' => e = .returned (.bool true) ∧ Sees w w' := by
  have Ht := Lib.hid ht
  obtain ⟨ao, ca, rfl, _⟩ := ha.slice'
  clear ht ha
  have d1 : decide ((r : Int) < 1) = false := decide_eq_false (by omega)
  have d2 : decide ((r : Int) > 12) = false := decide_eq_false (by omega)
  have d3 : decide ((m : Int) > 20) = true := decide_eq_true (by omega)
  go_enter Tryd.func13, Tryd.ntmps13
  go_wp2_with fail
  refine (known32 _ Ht.out).mono ?_
  rintro e w5 ⟨rfl, hs5⟩
  go_wp2
  go_ret
  exact ⟨by simp, hs5⟩
set_option maxRecDepth 1000000 in
set_option maxHeartbeats 4000000 in
theorem viewPlays_o4 (r m : Nat) (v : Value) (acts : List Act32) (w : World) (ht : Tabs w) (ha : act32El.Rd (fun b => b < w.heap.size) w v acts) (h1 : 1 ≤ r) (h2 : r ≤ 12) (h3 : m ≤ 20) (h4 : 40 < acts.length) :
    Calls Tryd.prog 13 #[.int .u8 r, .int .u8 m, v] w fun e w' => e = .returned (.bool true) ∧ Sees w w' := by
  have Ht := Lib.hid ht
  obtain ⟨ao, ca, rfl, _⟩ := ha.slice'
  clear ht ha
  have d1 : decide ((r : Int) < 1) = false := decide_eq_false (by omega)
  have d2 : decide ((r : Int) > 12) = false := decide_eq_false (by omega)
  have d3 : decide ((m : Int) > 20) = false := decide_eq_false (by omega)
  have d4 : decide ((acts.length : Int) > 40) = true := decide_eq_true (by omega)
  go_enter Tryd.func13, Tryd.ntmps13
  go_wp2_with fail
  refine (known32 _ Ht.out).mono ?_
  rintro e w5 ⟨rfl, hs5⟩
  go_wp2
  go_ret
  exact ⟨by simp, hs5⟩
theorem PvI.sees {w1 W W' : World} {hb R1 R2 : Nat} {m : Int} {k : Nat} {vv : Value} (h : PvI w1 W hb R1 R2 m k vv) (hs : Sees W W') : PvI w1 W' hb R1 R2 m k vv := by
  obtain ⟨vb, rows, back, f, ls, Z, Zl, a, c, e, p1, p2, p3, p4, p5, p6⟩ := h
  exact ⟨vb, rows, back, f, ls, Z, Zl, a, c, e, p1.sees hs, p2.sees hs, p3.sees hs, p4.sees hs, p5, p6⟩
theorem PvI.see {w1 W : World} {hb R1 R2 : Nat} {m : Int} {k : Nat} {vv : Value} (h : PvI w1 W hb R1 R2 m k vv) : Sees w1 W := by
  obtain ⟨vb, rows, back, f, ls, Z, Zl, a, c, e, p1, _⟩ := h
  exact p1.see
set_option maxRecDepth 1000000 in
set_option maxHeartbeats 16000000 in
theorem viewPlays_in (r m : Nat) (v : Value) (acts : List Act32) (w : World) (ht : Tabs w) (ha : act32El.Rd (fun b => b < w.heap.size) w v acts) (h1 : 1 ≤ r) (h2 : r ≤ 12) (h3 : m ≤ 20) (h4 : acts.length ≤ 40) :
    Calls Tryd.prog 13 #[.int .u8 r, .int .u8 m, v] w fun e w' => e = .returned (.bool true) ∧ Sees w w' := by
  have Ht := Lib.hid ht
  obtain ⟨ao, ca, rfl, _⟩ := ha.slice'
  have d1 : decide ((r : Int) < 1) = false := decide_eq_false (by omega)
  have d2 : decide ((r : Int) > 12) = false := decide_eq_false (by omega)
  have d3 : decide ((m : Int) > 20) = false := decide_eq_false (by omega)
  have d4 : decide ((acts.length : Int) > 40) = false := decide_eq_false (by omega)
  obtain ⟨t, ht2⟩ : ∃ t, t = acts.length := ⟨_, rfl⟩
  rw [← ht2] at ha h4 d4 ⊢
  have Htl := Lib.hid ht2
  have Ha := Lib.hid ha
  clear ht ha ht2
  have gr : IntKind.i64.wrap (r : Int) = (r : Int) := IntWalk.i64_in _ (by omega)
  have gm : IntKind.i64.wrap (m : Int) = (m : Int) := IntWalk.i64_in _ (by omega)
  go_enter Tryd.func13, Tryd.ntmps13
  go_wp2_with fail
  refine (vnew_ok r w (by omega) (by omega)).mono ?_
  rintro e wa ⟨rfl, hv, hsa⟩
  have VA := Lib.hid hv
  have SA := Lib.hid hsa
  clear hv hsa
  go_wp2_with fail
  refine (made32_any m _ [] (fun _ => True) wa (Ht.out.sees SA.out) (by omega) (by omega) (El.Rd.nil _ _) (fun l hl => by cases hl) (by simp) 0 (by simp)).mono ?_
  rintro e wb ⟨hb, rfl, P⟩
  have PB : Hid (HiF wa (fun c => wa.heap.size ≤ c) wb hb m 0 []) := Lib.hid P
  have VB := Lib.hid (VA.out.sees P.see)
  have hab := P.see.size
  have haw : w.heap.size + 1 ≤ wa.heap.size := by have := VA.out.lt; omega
  clear P VA
  go_wp2_with fail
  refine wp_world (fun w3 hw3 => ?_)
  have hs3 : Sees wb w3 := by subst hw3; exact ((Sees.refl wb).alloc _).alloc _
  have hr1 : RvAt w3 wb.heap.size r 0 := by subst hw3; exact (RvAt.new rfl).alloc _
  have hr2 : HrAt w3 (wb.heap.size + 1) m 0 (.slice none 0 0) := by subst hw3; exact HrAt.new (by simp)
  have I0 : Hid (PvI w w3 hb wb.heap.size (wb.heap.size + 1) m 0 (.pointer (some ⟨w.heap.size, 0, none⟩))) := Lib.hid (by
    have hl1 := hr1.lt
    have hl2 := hr2.lt
    refine ⟨w.heap.size, r, 0, 0, [], fun c => c = wb.heap.size ∨ c = wb.heap.size + 1, fun _ => False, none, 0, rfl, ⟨fun c => wa.heap.size ≤ c ∧ c < wb.heap.size, (PB.out.cut.rebase SA.out).sees hs3, VB.out.sees hs3, fun c hc => ⟨by omega, by omega, by omega⟩, by omega, fun c hc => by rcases hc with h | h <;> omega, Nat.le_refl _, h1, by omega, by omega⟩, hr1, hr2, El.Rd.nil _ _, fun c h => h.elim, ⟨.inl rfl, .inr rfl, fun h => h, fun h => h⟩, by omega, by simp, by simp⟩)
  have hR12 : wb.heap.size + 1 ≠ wb.heap.size := by omega
  have hRw : w.heap.size ≤ wb.heap.size := by omega
  have hRw2 : w.heap.size ≤ wb.heap.size + 1 := by omega
  clear hs3 hr1 hr2 hw3 PB VB hab haw SA
  generalize wb.heap.size + 1 = R2 at *
  generalize wb.heap.size = R1 at *
  go_loopw [7, 12] (fun vv i W => ∃ k : Nat, k ≤ t ∧ i = .int .i64 k ∧ PvI w W hb R1 R2 m k vv) (fun _ i _ => t - (intOf i).toNat)
  case atStart => exact ⟨0, by omega, rfl, I0.out⟩
  case round =>
    obtain ⟨k, hk, rfl, hI⟩ := hrel
    have HI0 := Lib.hid hI
    obtain ⟨vb, rows, back, f, ls, Z, Zl, a, c, rfl, p1, p2, p3, p4, p5, p6, p7, p8, p9⟩ := hI
    by_cases hlt : k < t
    · obtain ⟨b1, o1, ac, rfl, hb1, hac, y0, y1⟩ := (Ha.out.sees p1.see).act32 hlt
      have hb1 : b1 < w.heap.size := hb1
      obtain ⟨what, num⟩ := ac
      simp only [] at y0 y1
      clear hac I0
      have HP := Lib.hid p1
      have HR1 := Lib.hid p2
      have HR2 := Lib.hid p3
      have HL := Lib.hid p4
      have HZ := Lib.hid p5
      have HZR := Lib.hid p6
      have HB := Lib.hid (And.intro p7 (And.intro p8 p9))
      clear p1 p2 p3 p4 p5 p6 p7 p8 p9
      have Y0 := Lib.hid y0
      have Y1 := Lib.hid y1
      by_cases hx : what = 3 ∧ 20 < num ∧ num ≤ 1000
      · obtain ⟨rfl, hx1, hx2⟩ := hx
        have e2 : decide (num > 20) = true := decide_eq_true (by omega)
        have e3 : decide (num ≤ 1000) = true := decide_eq_true (by omega)
        go_wp2_with fail
        refine (known32 _ (Ht.out.sees HI0.out.see)).mono ?_
        rintro e w5 ⟨rfl, hs5⟩
        go_wp2
        go_ret
        exact ⟨by simp, HI0.out.see.trans hs5⟩
      · go_upto_region 15 with fail
        go_cut [84] from 85 to 106 (fun s84 wx => s84 = .bool false ∧ wx = wr)
        case first =>
          by_cases x1 : what = 3
          · subst x1
            by_cases x2 : 20 < num
            · have e2 : decide (num > 20) = true := decide_eq_true (by omega)
              have e3 : decide (num ≤ 1000) = false := decide_eq_false (by omega)
              go_wp2_with fail
              go_meet
              exact ⟨rfl, rfl⟩
            · have e2 : decide (num > 20) = false := decide_eq_false (by omega)
              go_wp2_with fail
              go_meet
              exact ⟨rfl, rfl⟩
          · have e1 : (what == 3) = false := by simpa using x1
            go_wp2_with fail
            go_meet
            exact ⟨rfl, rfl⟩
        case rest =>
          obtain ⟨rfl, rfl⟩ := hcut
          by_cases hcopy : what < 0 ∨ 5 < what
          · have hways : (decide (what < 0) = true) ∨ (decide (what < 0) = false ∧ decide (what > 5) = true) := by
              by_cases h : what < 0
              · exact .inl (decide_eq_true h)
              · exact .inr ⟨decide_eq_false h, decide_eq_true (by omega)⟩
            clear hcopy
            rcases hways with e1 | ⟨e1, e2⟩
            all_goals
              go_wp2_with fail
              refine (vcopy_at _ vb rows back HP.out.vw.1 (by have := HP.out.vw.2.1; omega)).mono ?_
              rintro e W2 ⟨q, rfl, hq1, hq2, hs2⟩
              have P2 := Lib.hid (HP.out.more hs2)
              have HQ2 := Lib.hid hq2
              have HR1 := Lib.hid (HR1.out.sees hs2)
              have HR2 := Lib.hid (HR2.out.sees hs2)
              have HL := Lib.hid (HL.out.sees hs2)
              have hq3 := hq2.lt
              have hwr := HP.out.see.size
              have HZW := Lib.hid HP.out.zlt
              have HVW := Lib.hid HP.out.vw
              obtain ⟨k5, hk5, hk5n⟩ := clampV_nat (back + max (min 5 1048576) (-1048576)) ls.length
              have Hk5 := Lib.hid hk5
              clear hq2 hs2 hk5 y0 y1
              go_wp2_with fail
              refine (P2.out.scroll 5 k5 Hk5.out).mono ?_
              rintro e W3 ⟨rfl, hp, hk⟩
              have P3 := Lib.hid hp
              have HQ3 := Lib.hid (HQ2.out.keeps hk (fun e => e.1 (.inr ⟨hq1, hq3⟩)))
              have HR1 := Lib.hid (HR1.out.keeps hk (fun e => e.1 (.inl HZR.out.1)))
              have HR2 := Lib.hid (HR2.out.keeps hk (fun e => e.1 (.inl HZR.out.2.1)))
              have HL := Lib.hid (HL.out.keeps hk (fun c hc e => e.1 (.inl (HZ.out c hc))))
              obtain ⟨k6, hk6, hk6n⟩ := clampV_nat k5 ls.length
              have Hk6 := Lib.hid hk6
              clear hp hk P2 HQ2 hk6
              go_wp2_with fail
              refine (P3.out.resize 7 (by omega) (by omega) k6 Hk6.out).mono ?_
              rintro e W4 ⟨rfl, hp, hk⟩
              have HI : Hid (PvI w W4 hb R1 R2 m (k + 1) (.pointer (some ⟨q, 0, none⟩))) := Lib.hid ⟨q, rows, back, f, ls, Z, Zl, a, c, rfl, hp.swap (HQ3.out.keeps hk (fun e => e.1 (.inr ⟨hq1, hq3⟩))) (.inr ⟨hq1, hq3⟩) (fun c hc => .inl hc) (fun e => by have := HZW.out q e; omega) (by omega) HVW.out.2.1 HVW.out.2.2.1 HVW.out.2.2.2.1, HR1.out.keeps hk (fun e => e.1 (.inl HZR.out.1)), HR2.out.keeps hk (fun e => e.1 (.inl HZR.out.2.1)), HL.out.keeps hk (fun c hc e => e.1 (.inl (HZ.out c hc))), HZ.out, HZR.out, HB.out.1, HB.out.2.1, by have := HB.out.2.2; omega⟩
              clear hp hk P3 HQ3 HR1 HR2 HL HZ HZR HB HVW HZW Hk5 Hk6 HP HI0
              obtain ⟨vb2, rows2, back2, f2, L2, Z2, Zl2, a2, c2, ev2, p1, p2, p3, p4, p5, p6, p7, p8, p9⟩ := HI.out
              cases ev2
              obtain ⟨n2, hn2⟩ : ∃ n2, n2 = L2.length := ⟨_, rfl⟩
              rw [← hn2] at p3 p4 p8 p9
              have fa2 := p1.facts
              rw [← hn2] at fa2
              have hrv := p1.vw.2.1
              have P2 := Lib.hid p1
              have R1o := Lib.hid p2
              have R2o := Lib.hid p3
              have L2o := Lib.hid p4
              have HZ2 := Lib.hid p5
              have Hn2 := Lib.hid hn2
              have hsee := p1.see.size
              obtain ⟨s, hs⟩ : ∃ s, s = (ByteArray.mk #[109, 110, 111, 112, 113, 114, 115, 116, 117, 118, 119, 120, 121, 122, 109, 110, 111, 112, 113, 114, 115, 116, 117, 118, 119, 120, 121, 122]).extract 0 rows2 := ⟨_, rfl⟩
              have hr28 : rows2 ≤ (ByteArray.mk #[109, 110, 111, 112, 113, 114, 115, 116, 117, 118, 119, 120, 121, 122, 109, 110, 111, 112, 113, 114, 115, 116, 117, 118, 119, 120, 121, 122]).size := by show rows2 ≤ 28; omega
              have Hsl : Hid ((rowsOf s).length = rows2) := Lib.hid (by rw [hs]; exact rows32_size _ _ hr28)
              have Hss : Hid (s.size ≤ 1000) := Lib.hid (by rw [hs, extract_size _ _ hr28]; omega)
              have hX1 : ∀ W, (Instr.sliceAt 9 (.string ⟨#[109, 110, 111, 112, 113, 114, 115, 116, 117, 118, 119, 120, 121, 122, 109, 110, 111, 112, 113, 114, 115, 116, 117, 118, 119, 120, 121, 122]⟩) none (some (.int .i64 rows2)) none).run Tryd.prog W = .ok (.string s) W := by rw [hs]; exact cut_const64 _ rows2 hr28
              obtain ⟨x0, x1⟩ := R1o.out.c
              clear p1 p2 p3 p4 p5 p6 hs hr28 hn2
              go_wp2_with fail
              refine (list32_any s _ Hss.out).mono ?_
              rintro e W3 ⟨v3, rfl, ho, hs3⟩
              obtain ⟨sa, sc, rfl, _⟩ := ho.slice
              rw [Hsl.out] at ho ⊢
              have P3 := Lib.hid (P2.out.more hs3)
              have S3 : Hid (ViSt w W3 q hb rows2 back2 m f2 L2 (.slice sa rows2 sc) (rowsOf s)) := Lib.hid (P3.out.st (ho.rd.mono (fun c hc h => .inr ⟨h, hc⟩)))
              have R1o := Lib.hid (R1o.out.sees hs3)
              have R2o := Lib.hid (R2o.out.sees hs3)
              have L2o := Lib.hid (L2o.out.sees hs3)
              have HI := Lib.hid (HI.out.sees hs3)
              have O3 := Lib.hid ho.rd
              clear ho hs3 P2 P3 x0 x1 hX1
              obtain ⟨x0, x1⟩ := R1o.out.c
              obtain ⟨b0, b1, b2⟩ := R2o.out.c
              obtain ⟨z2, hz2⟩ : ∃ z2 : Int, (f2 : Int) + (n2 : Int) - back2 = z2 := ⟨_, rfl⟩
              have Hz2 : Hid ((f2 : Int) + (L2.length : Int) - back2 = z2) := Lib.hid (by rw [← Hn2.out]; exact hz2)
              have Hk2 : Hid (clampV (back2 : Int) L2.length = back2) := Lib.hid (by rw [← Hn2.out]; unfold clampV; omega)
              clear hz2
              go_wp2_with fail
              refine (refLines32 (fun _ => True) rows2 back2 m f2 _ _ L2 (rowsOf s) W3 (by rw [← Hn2.out]; omega) hrv (by omega) Hsl.out (by rw [← Hn2.out]; omega) (by omega) (L2o.out.mono (fun _ _ _ => trivial)) (O3.out.mono (fun _ _ _ => trivial)) z2 Hz2.out).mono ?_
              rintro e W4 ⟨⟨v4, rfl, hx⟩, hs4⟩
              obtain ⟨want, hwant⟩ : ∃ want, want = (L2.drop (L2.length - back2) ++ rowsOf s).take rows2 := ⟨_, rfl⟩
              have hwl : want.length = rows2 := by rw [hwant, List.length_take, List.length_append, Hsl.out]; omega
              have Hwant := Lib.hid hwant
              rw [← hwant] at hx
              obtain ⟨xa, xc, rfl, _⟩ := hx.slice'
              rw [hwl] at hx ⊢
              have X6 := Lib.hid hx
              have S6 := Lib.hid (S3.out.sees hs4)
              have R1o := Lib.hid (R1o.out.sees hs4)
              have HI := Lib.hid (HI.out.sees hs4)
              have O6 := Lib.hid (O3.out.sees hs4)
              clear hx hs4 S3 R2o L2o O3 x0 x1 b0 b1 b2 hwant hwl
              obtain ⟨ya, yc, h9, _⟩ := cut_from O6.out 1 hrv
              have H9 := Lib.hid h9
              clear h9 O6
              go_wp2_with fail
              refine wpFrom_go (by kernel_rfl) (by kernel_rfl) (fun hB W6 hs6 => ?_)
              have S6 := Lib.hid (S6.out.sees hs6)
              have X6 := Lib.hid (X6.out.sees hs6)
              have R1o := Lib.hid (R1o.out.sees hs6)
              have HI := Lib.hid (HI.out.sees hs6)
              clear hs6
              have hval : ∀ x v, (Spec.is x).val v = x := fun _ _ => rfl
              have hval2 : ∀ V v, (Spec.so V).val v = v := fun _ _ => rfl
              have hst : segStay (Sees W6) [.is (.pointer (some ⟨q, 0, none⟩)),
                    .is (.int .i64 back2),
                    .is (.pointer (some ⟨R1, 1, none⟩)),
                    .is (.int .i64 back2),
                    .is (.bool false),
                    .is (.bool false),
                    .is (.pointer (some ⟨q, 0, none⟩)),
                    .is (.int .i64 rows2),
                    .is (.pointer (some ⟨R1, 0, none⟩)),
                    .is (.int .i64 rows2),
                    .is (.bool false),
                    .is (.bool false),
                    .is (.bool false),
                    .is (.pointer (some ⟨q, 0, none⟩)),
                    .is (.pointer (some ⟨hb, 0, none⟩)),
                    .is (.slice sa rows2 sc),
                    .is (.slice xa rows2 xc),
                    .is (.int .i64 z2),
                    .is (.bool true),
                    .is (.bool false),
                    .is (.bool false),
                    .is (.bool false),
                    .is (.pointer (some ⟨q, 0, none⟩)),
                    .is (.pointer (some ⟨hb, 0, none⟩)),
                    .is (.slice sa rows2 sc),
                    .is (.slice ya (rows2 - 1) yc),
                    .is (.bool true),
                    .is (.bool false),
                    .is (.bool false)] :=
                  trivial
              refine wpFrom_any 29 _ hB (by kernel_rfl) rfl hst (by simp only [List.cons_append, List.nil_append, List.drop_succ_cons, List.drop_zero, List.take_succ_cons, List.take_zero, Nat.reduceSub]; rfl) ?_
              refine ⟨fun vs W hI hV => .inl ⟨by clear hI hV hst; go_simp, .inl (by clear hI hV hst; (try simp only [Act.put, hval, hval2, List.setIfInBounds_toArray, List.set_cons_zero, List.set_cons_succ]); go_simp)⟩, ?_⟩
              refine ⟨fun vs W hI hV => .inl ⟨by clear hI hV hst; (try simp only [Act.put, hval, hval2, List.setIfInBounds_toArray, List.set_cons_zero, List.set_cons_succ]); go_simp, .inr (.inr ⟨42, #[.pointer (some ⟨q, 0, none⟩)], by clear hI hV hst; (try simp only [Act.put, hval, hval2, List.setIfInBounds_toArray, List.set_cons_zero, List.set_cons_succ]); go_simp, (S6.out.sees hI).back_is⟩)⟩, ?_⟩
              refine ⟨fun vs W hI hV => .inl ⟨by clear hI hV hst; go_simp, .inl (by clear hI hV hst; (try simp only [Act.put, hval, hval2, List.setIfInBounds_toArray, List.set_cons_zero, List.set_cons_succ]); go_simp)⟩, ?_⟩
              refine ⟨fun vs W hI hV => .inl ⟨by clear hI hV hst; go_simp, .inl (by have q := (R1o.out.sees hI).c; obtain ⟨q0, q1⟩ := q; clear hI hV hst; (try simp only [Act.put, hval, hval2, List.setIfInBounds_toArray, List.set_cons_zero, List.set_cons_succ]); go_simp)⟩, ?_⟩
              refine ⟨fun vs W hI hV => .inl ⟨by clear hI hV hst; go_simp, .inl (by clear hI hV hst; (try simp only [Act.put, hval, hval2, List.setIfInBounds_toArray, List.set_cons_zero, List.set_cons_succ]); go_simp)⟩, ?_⟩
              refine ⟨fun vs W hI hV => .inl ⟨by clear hI hV hst; go_simp, .inl (by clear hI hV hst; (try simp only [Act.put, hval, hval2, List.setIfInBounds_toArray, List.set_cons_zero, List.set_cons_succ]); go_simp)⟩, ?_⟩
              refine ⟨fun vs W hI hV => .inl ⟨by clear hI hV hst; go_simp, .inl (by clear hI hV hst; (try simp only [Act.put, hval, hval2, List.setIfInBounds_toArray, List.set_cons_zero, List.set_cons_succ]); go_simp)⟩, ?_⟩
              refine ⟨fun vs W hI hV => .inl ⟨by clear hI hV hst; (try simp only [Act.put, hval, hval2, List.setIfInBounds_toArray, List.set_cons_zero, List.set_cons_succ]); go_simp, .inr (.inr ⟨41, #[.pointer (some ⟨q, 0, none⟩)], by clear hI hV hst; (try simp only [Act.put, hval, hval2, List.setIfInBounds_toArray, List.set_cons_zero, List.set_cons_succ]); go_simp, (S6.out.sees hI).rows_is⟩)⟩, ?_⟩
              refine ⟨fun vs W hI hV => .inl ⟨by clear hI hV hst; go_simp, .inl (by clear hI hV hst; (try simp only [Act.put, hval, hval2, List.setIfInBounds_toArray, List.set_cons_zero, List.set_cons_succ]); go_simp)⟩, ?_⟩
              refine ⟨fun vs W hI hV => .inl ⟨by clear hI hV hst; go_simp, .inl (by have q := (R1o.out.sees hI).c; obtain ⟨q0, q1⟩ := q; clear hI hV hst; (try simp only [Act.put, hval, hval2, List.setIfInBounds_toArray, List.set_cons_zero, List.set_cons_succ]); go_simp)⟩, ?_⟩
              refine ⟨fun vs W hI hV => .inl ⟨by clear hI hV hst; go_simp, .inl (by clear hI hV hst; (try simp only [Act.put, hval, hval2, List.setIfInBounds_toArray, List.set_cons_zero, List.set_cons_succ]); go_simp)⟩, ?_⟩
              refine ⟨fun vs W hI hV => .inl ⟨by clear hI hV hst; go_simp, .inl (by clear hI hV hst; (try simp only [Act.put, hval, hval2, List.setIfInBounds_toArray, List.set_cons_zero, List.set_cons_succ]); go_simp)⟩, ?_⟩
              refine ⟨fun vs W hI hV => .inl ⟨by clear hI hV hst; go_simp, .inl (by clear hI hV hst; (try simp only [Act.put, hval, hval2, List.setIfInBounds_toArray, List.set_cons_zero, List.set_cons_succ]); go_simp)⟩, ?_⟩
              refine ⟨fun vs W hI hV => .inl ⟨by clear hI hV hst; go_simp, .inl (by clear hI hV hst; (try simp only [Act.put, hval, hval2, List.setIfInBounds_toArray, List.set_cons_zero, List.set_cons_succ]); go_simp)⟩, ?_⟩
              refine ⟨fun vs W hI hV => .inl ⟨by clear hI hV hst; go_simp, .inl (by clear hI hV hst; (try simp only [Act.put, hval, hval2, List.setIfInBounds_toArray, List.set_cons_zero, List.set_cons_succ]); go_simp)⟩, ?_⟩
              refine ⟨fun vs W hI hV => .inl ⟨by clear hI hV hst; go_simp, .inl (by clear hI hV hst; (try simp only [Act.put, hval, hval2, List.setIfInBounds_toArray, List.set_cons_zero, List.set_cons_succ]); go_simp)⟩, ?_⟩
              refine ⟨fun vs W hI hV => .inl ⟨by clear hI hV hst; go_simp, .inl (by clear hI hV hst; (try simp only [Act.put, hval, hval2, List.setIfInBounds_toArray, List.set_cons_zero, List.set_cons_succ]); go_simp)⟩, ?_⟩
              refine ⟨fun vs W hI hV => .inl ⟨by clear hI hV hst; go_simp, .inl (by clear hI hV hst; (try simp only [Act.put, hval, hval2, List.setIfInBounds_toArray, List.set_cons_zero, List.set_cons_succ]); go_simp)⟩, ?_⟩
              refine ⟨fun vs W hI hV => .inl ⟨by clear hI hV hst; (try simp only [Act.put, hval, hval2, List.setIfInBounds_toArray, List.set_cons_zero, List.set_cons_succ]); go_simp, .inr (.inr ⟨43, #[.pointer (some ⟨q, 0, none⟩), .pointer (some ⟨hb, 0, none⟩), .slice sa rows2 sc, .slice xa rows2 xc, .int .i64 z2, .int .i64 0], by clear hI hV hst; (try simp only [Act.put, hval, hval2, List.setIfInBounds_toArray, List.set_cons_zero, List.set_cons_succ]); go_simp, (S6.out.sees hI).seen back2 Hk2.out Hsl.out (rows32_cells _) z2 Hz2.out _ _ _ (X6.out.sees hI).rdl Hwant.out.symm⟩)⟩, ?_⟩
              refine ⟨fun vs W hI hV => .inl ⟨by clear hI hV hst; go_simp, .inl (by clear hI hV hst; (try simp only [Act.put, hval, hval2, List.setIfInBounds_toArray, List.set_cons_zero, List.set_cons_succ]); go_simp)⟩, ?_⟩
              refine ⟨fun vs W hI hV => .inl ⟨by clear hI hV hst; go_simp, .inl (by clear hI hV hst; (try simp only [Act.put, hval, hval2, List.setIfInBounds_toArray, List.set_cons_zero, List.set_cons_succ]); go_simp)⟩, ?_⟩
              refine ⟨fun vs W hI hV => .inl ⟨by clear hI hV hst; go_simp, .inl (by clear hI hV hst; (try simp only [Act.put, hval, hval2, List.setIfInBounds_toArray, List.set_cons_zero, List.set_cons_succ]); go_simp)⟩, ?_⟩
              refine ⟨fun vs W hI hV => .inl ⟨by clear hI hV hst; go_simp, .inl (by clear hI hV hst; (try simp only [Act.put, hval, hval2, List.setIfInBounds_toArray, List.set_cons_zero, List.set_cons_succ]); go_simp)⟩, ?_⟩
              refine ⟨fun vs W hI hV => .inl ⟨by clear hI hV hst; go_simp, .inl (by clear hI hV hst; (try simp only [Act.put, hval, hval2, List.setIfInBounds_toArray, List.set_cons_zero, List.set_cons_succ]); go_simp)⟩, ?_⟩
              refine ⟨fun vs W hI hV => .inl ⟨by clear hI hV hst; go_simp, .inl (by clear hI hV hst; (try simp only [Act.put, hval, hval2, List.setIfInBounds_toArray, List.set_cons_zero, List.set_cons_succ]); go_simp)⟩, ?_⟩
              refine ⟨fun vs W hI hV => .inl ⟨by clear hI hV hst; go_simp, .inl (by clear hI hV hst; exact exec_fromL (a := .slice sa rows2 sc) (b := .int .i64 1) rfl (by (try simp only [Act.put, hval, hval2, List.setIfInBounds_toArray, List.set_cons_zero, List.set_cons_succ]); go_simp) (by (try simp only [Act.put, hval, hval2, List.setIfInBounds_toArray, List.set_cons_zero, List.set_cons_succ]); go_simp) (H9.out W))⟩, ?_⟩
              refine ⟨fun vs W hI hV => .inl ⟨by clear hI hV hst; (try simp only [Act.put, hval, hval2, List.setIfInBounds_toArray, List.set_cons_zero, List.set_cons_succ]); go_simp, .inr (.inr ⟨43, #[.pointer (some ⟨q, 0, none⟩), .pointer (some ⟨hb, 0, none⟩), .slice ya (rows2 - 1) yc, .slice none 0 0, .int .i64 0, .int .i64 2], by clear hI hV hst; (try simp only [Act.put, hval, hval2, List.setIfInBounds_toArray, List.set_cons_zero, List.set_cons_succ]); go_simp, (S6.out.sees hI).seen_arg _ _ _ (by omega)⟩)⟩, ?_⟩
              refine ⟨fun vs W hI hV => .inl ⟨by clear hI hV hst; go_simp, .inl (by clear hI hV hst; (try simp only [Act.put, hval, hval2, List.setIfInBounds_toArray, List.set_cons_zero, List.set_cons_succ]); go_simp)⟩, ?_⟩
              refine ⟨fun vs W hI hV => .inl ⟨by clear hI hV hst; go_simp, .inl (by clear hI hV hst; (try simp only [Act.put, hval, hval2, List.setIfInBounds_toArray, List.set_cons_zero, List.set_cons_succ]); go_simp)⟩, ?_⟩
              intro vs W7 hI hV
              have HI := Lib.hid (HI.out.sees hI)
              clear hI hV hst S6 X6 R1o
              (try simp only [Act.put, hval, hval2, List.setIfInBounds_toArray, List.set_cons_zero, List.set_cons_succ])
              go_simp
              refine wpFrom_end rfl ?_
              clear hB
              go_wp2_with fail
              go_roundw
              case rel => exact ⟨k + 1, by omega, by go_num, HI.out⟩
              case measure => simp [intOf] <;> omega
          · have e1 : decide (what < 0) = false := decide_eq_false (by omega)
            have e2 : decide (what > 5) = false := decide_eq_false (by omega)
            have hw0 : 0 ≤ what := by omega
            have hw5 : what ≤ 5 := by omega
            have hnum : what = 3 → num ≤ 20 ∨ 1000 < num := fun h => by
              by_cases h1 : num ≤ 20
              · exact .inl h1
              · exact .inr (by
                  by_cases h2 : num ≤ 1000
                  · exact absurd ⟨h, by omega, h2⟩ hx
                  · omega)
            have Hnum := Lib.hid hnum
            clear hcopy hx hnum
            obtain ⟨n, hn⟩ : ∃ n, n = ls.length := ⟨_, rfl⟩
            have fa := HP.out.facts
            rw [← hn] at HR2 HL HB fa
            have Hn := Lib.hid hn
            have hb20 := HB.out.1
            have hbn := HB.out.2.1
            have hfn := HB.out.2.2
            clear hn
            go_upto_region 11 with fail
            clear y0 y1
            go_cut [14, 15, 16] from 67 to 79 (fun s14 s15 s16 wx => MidV w wx vb hb R1 R2 m ((f : Int) + n) s14 s15 s16)
            case first =>
              refine wpH_go (Chg w Z) 18 (by kernel_rfl) (by kernel_rfl) (by rfl) (fun hB w10 hs10 => ?_)
              have hwr := HP.out.see.size
              have hzs := hs10.size
              have ST : Hid (StV w w10 Z Zl vb hb rows back f m ls (.slice a n c) R1 R2) := Lib.hid ⟨HP.out.sees hs10, HL.out.sees hs10, HZ.out, ⟨_, _, HR1.out.sees hs10⟩, ⟨_, _, _, HR2.out.sees hs10⟩, HZR.out⟩
              have Q1 := Lib.hid (HR1.out.sees hs10)
              have Q2 := Lib.hid (HR2.out.sees hs10)
              have Y0 := Lib.hid (hs10.cell Y0.out)
              have Y1 := Lib.hid (hs10.cell Y1.out)
              have HZ0 : Hid (∀ c, Z c → Z c) := Lib.hid (fun _ h => h)
              clear hs10 HP HL HR1 HR2 HB HI0
              have hS0 : Keeps (Chg w Z) w10 w10 := Keeps.refl _ w10
              refine wpH_take (i := 0) (v := .pointer (some ⟨vb, 0, none⟩)) hB (by rfl) (by kernel_rfl) (fun _ _ _ _ _ h => h) (by rfl) hS0 (fun W hI => by clear hI; go_simp) ?_; (try simp only [Act.put, List.setIfInBounds_toArray, List.set_cons_zero, List.set_cons_succ])
              refine wpH_take (i := 1) (v := .pointer (some ⟨hb, 0, none⟩)) hB (by rfl) (by kernel_rfl) (fun _ _ _ _ _ h => h) (by rfl) hS0 (fun W hI => by clear hI; go_simp) ?_; (try simp only [Act.put, List.setIfInBounds_toArray, List.set_cons_zero, List.set_cons_succ])
              refine wpH_take (i := 2) (v := .agg #[.int .i64 rows, .int .i64 back]) hB (by rfl) (by kernel_rfl) (fun _ _ _ _ _ h => h) (by rfl) hS0 (fun W hI => by have q := (Q1.out.keeps hI (fun e => e.1 HZR.out.1)).c; obtain ⟨q0, q1⟩ := q; go_simp) ?_; (try simp only [Act.put, List.setIfInBounds_toArray, List.set_cons_zero, List.set_cons_succ])
              refine wpH_take (i := 3) (v := .agg #[.int .i64 m, .int .i64 f, .slice a n c]) hB (by rfl) (by kernel_rfl) (fun _ _ _ _ _ h => h) (by rfl) hS0 (fun W hI => by have q := (Q2.out.keeps hI (fun e => e.1 HZR.out.2.1)).c; obtain ⟨q0, q1, q2⟩ := q; go_simp) ?_; (try simp only [Act.put, List.setIfInBounds_toArray, List.set_cons_zero, List.set_cons_succ])
              refine wpH_take (i := 4) (v := .slice (some ⟨b1, o1, none⟩) t ca) hB (by rfl) (by kernel_rfl) (fun _ _ _ _ _ h => h) (by rfl) hS0 (fun W hI => by clear hI; go_simp) ?_; (try simp only [Act.put, List.setIfInBounds_toArray, List.set_cons_zero, List.set_cons_succ])
              refine wpH_take (i := 5) (v := .int .i64 k) hB (by rfl) (by kernel_rfl) (fun _ _ _ _ _ h => h) (by rfl) hS0 (fun W hI => by clear hI; go_simp) ?_; (try simp only [Act.put, List.setIfInBounds_toArray, List.set_cons_zero, List.set_cons_succ])
              refine wpH_take (i := 6) (v := .pointer (some ⟨b1, o1 + k * 2, none⟩)) hB (by rfl) (by kernel_rfl) (fun _ _ _ _ _ h => h) (by rfl) hS0 (fun W hI => by clear hI; go_simp) ?_; (try simp only [Act.put, List.setIfInBounds_toArray, List.set_cons_zero, List.set_cons_succ])
              refine wpH_take (i := 7) (v := .agg #[.int .i64 what, .int .i64 num]) hB (by rfl) (by kernel_rfl) (fun _ _ _ _ _ h => h) (by rfl) hS0 (fun W hI => by have q0 := hI.cell (a := ⟨b1, o1 + k * 2, none⟩) (fun e => by have e : w.heap.size ≤ b1 := e.2; omega) Y0.out; have q1 := hI.cell (a := ⟨b1, o1 + k * 2 + 1, none⟩) (fun e => by have e : w.heap.size ≤ b1 := e.2; omega) Y1.out; clear hI; go_simp) ?_; (try simp only [Act.put, List.setIfInBounds_toArray, List.set_cons_zero, List.set_cons_succ])
              have hlo : w10.heap.size ≤ w10.heap.size := Nat.le_refl _
              clear Q1 Q2 Y0 Y1
              refine wpH_three (i := 8) (j := 13) (k := 14) (by kernel_rfl) ?_ ?_ ?_
              · refine wpOp_enter (fn := 54) (args := #[.pointer (some ⟨vb, 0, none⟩), .pointer (some ⟨hb, 0, none⟩), .agg #[.int .i64 rows, .int .i64 back], .agg #[.int .i64 m, .int .i64 f, .slice a n c], .agg #[.int .i64 what, .int .i64 num]]) (by rfl) (by rfl) (by go_simp) ((does32_any what hw0 hw5 Ht.out ST.out.1 ST.out.2.1 ST.out.2.2.1 Hn.out (by omega) hbn (by omega)).mono ?_)
                rintro e wy1 ⟨rows2, back2, f3, L2, v2, Z2, rfl, p1, p2, p3, p4, p5, p6, p7, p8⟩
                have fa2 := p1.facts
                have hv2 := p1.vw.2.2.1
                obtain ⟨f2, rfl⟩ : ∃ f2 : Nat, f3 = f2 := ⟨f3.toNat, by omega⟩
                obtain ⟨a2, c2, rfl, _⟩ := p2.slice'
                obtain ⟨n2, hn2⟩ : ∃ n2, n2 = L2.length := ⟨_, rfl⟩
                rw [← hn2] at p2 p7 p8 ⊢
                have Hn2 := Lib.hid hn2
                have hr20 : rows2 ≤ 20 := by
                  rcases p6 with h | ⟨h, h2⟩
                  · omega
                  · have := Hnum.out h; omega
                have hk1 := hS0.trans (p5.mono (fun c _ e => (⟨fun h => e.1 (HZ0.out c h), e.2⟩ : Chg w Z c)))
                have hlo : w10.heap.size ≤ wy1.heap.size := Nat.le_trans hlo p5.size
                have ST := Lib.hid (ST.out.call p1 p2 p3 p5)
                have HZ0 := Lib.hid (fun c h => p3 c (HZ0.out c h))
                refine ⟨_, rfl, hk1, ?_⟩
                clear hS0 p1 p2 p3 p4 p5 p6 hn2 fa2
                have hS0 := hk1
                clear hk1
                (try simp only [Act.put, List.setIfInBounds_toArray, List.set_cons_zero, List.set_cons_succ])
                refine wpH_take (i := 9) (v := .tuple #[.agg #[.int .i64 rows2, .int .i64 back2], .agg #[.int .i64 m, .int .i64 f2, .slice a2 n2 c2], .bool true]) hB (by rfl) (by kernel_rfl) (fun _ _ _ _ _ h => h) (by rfl) hS0 (fun W hI => by clear hI; go_simp) ?_; (try simp only [Act.put, List.setIfInBounds_toArray, List.set_cons_zero, List.set_cons_succ])
                refine wpH_take (i := 10) (v := .agg #[.int .i64 rows2, .int .i64 back2]) hB (by rfl) (by kernel_rfl) (fun _ _ _ _ _ h => h) (by rfl) hS0 (fun W hI => by clear hI; go_simp) ?_; (try simp only [Act.put, List.setIfInBounds_toArray, List.set_cons_zero, List.set_cons_succ])
                refine wpH_take (i := 11) (v := .agg #[.int .i64 m, .int .i64 f2, .slice a2 n2 c2]) hB (by rfl) (by kernel_rfl) (fun _ _ _ _ _ h => h) (by rfl) hS0 (fun W hI => by clear hI; go_simp) ?_; (try simp only [Act.put, List.setIfInBounds_toArray, List.set_cons_zero, List.set_cons_succ])
                refine wpH_take (i := 12) (v := .bool true) hB (by rfl) (by kernel_rfl) (fun _ _ _ _ _ h => h) (by rfl) hS0 (fun W hI => by clear hI; go_simp) ?_; (try simp only [Act.put, List.setIfInBounds_toArray, List.set_cons_zero, List.set_cons_succ])
                refine wpH_two (i := 13) (j := 14) (by kernel_rfl) ?_ ?_
                · obtain ⟨b14, hbb⟩ : ∃ b, b = wy1.heap.size := ⟨_, rfl⟩
                  obtain ⟨wy2, hnew⟩ : ∃ x, x = wy1.alloc (.cells #[.int .i64 0, .int .i64 0] 86) := ⟨_, rfl⟩
                  have hal : Sees wy1 wy2 := by rw [hnew]; exact (Sees.refl wy1).alloc _
                  have D14 := Lib.hid (show RvAt wy2 b14 0 0 by rw [hnew]; exact RvAt.new hbb)
                  have hzn : wy2.heap.size = wy1.heap.size + 1 := by rw [hnew]; simp
                  obtain ⟨Zn, hst, hz1, hz2⟩ := ST.out.alloc hal
                  have N14 := Lib.hid (NwB.new (lo := w10.heap.size) ST.out hz2 hbb hzn hlo)
                  have ST := Lib.hid hst
                  have HZ0 := Lib.hid (fun c h => hz1 c (HZ0.out c h))
                  have hk1 := hS0.trans (Keeps.of_sees (F := Chg w Z) hal)
                  have hlo : w10.heap.size ≤ wy2.heap.size := by omega
                  refine wpOp_val (v := .pointer (some ⟨b14, 0, none⟩)) (w' := wy2) (by rfl) (wanted_none (by rfl) _) (by rw [hnew, hbb]; go_simp) ⟨hk1, ?_⟩
                  (try simp only [Act.put, List.setIfInBounds_toArray, List.set_cons_zero, List.set_cons_succ])
                  clear hS0 hal hzn hnew hbb hst hz1 hz2
                  have hS0 := hk1
                  clear hk1
                  obtain ⟨b15, hbb⟩ : ∃ b, b = wy2.heap.size := ⟨_, rfl⟩
                  obtain ⟨wy3, hnew⟩ : ∃ x, x = wy2.alloc (.cells #[.int .i64 0, .int .i64 0, .slice none 0 0] 60) := ⟨_, rfl⟩
                  have hal : Sees wy2 wy3 := by rw [hnew]; exact (Sees.refl wy2).alloc _
                  have D15 := Lib.hid (show HrAt wy3 b15 0 0 (.slice none 0 0) by rw [hnew]; exact HrAt.new hbb)
                  have hzn : wy3.heap.size = wy2.heap.size + 1 := by rw [hnew]; simp
                  obtain ⟨Zn, hst, hz1, hz2⟩ := ST.out.alloc hal
                  have N15 := Lib.hid (NwB.new (lo := w10.heap.size) ST.out hz2 hbb hzn hlo)
                  have HNE : Hid (b14 ≠ b15) := Lib.hid (by have := N14.out.2.2.2.2.2.2; omega)
                  have N14 := Lib.hid (N14.out.alloc (W' := wy3) hz1 (by omega))
                  have D14 := Lib.hid (D14.out.sees hal)
                  have ST := Lib.hid hst
                  have HZ0 := Lib.hid (fun c h => hz1 c (HZ0.out c h))
                  have hk1 := hS0.trans (Keeps.of_sees (F := Chg w Z) hal)
                  have hlo : w10.heap.size ≤ wy3.heap.size := by omega
                  refine wpH_one (i := 14) (by kernel_rfl) (wpOp_val (v := .pointer (some ⟨b15, 0, none⟩)) (w' := wy3) (by rfl) (wanted_none (by rfl) _) (by rw [hnew, hbb]; go_simp) ⟨hk1, ?_⟩)
                  (try simp only [Act.put, List.setIfInBounds_toArray, List.set_cons_zero, List.set_cons_succ])
                  clear hS0 hal hzn hnew hbb hst hz1 hz2
                  have hS0 := hk1
                  clear hk1
                  obtain ⟨wy4, hnew⟩ : ∃ x, x = wy3.setRow b14 #[.int .i64 rows2, .int .i64 back2] := ⟨_, rfl⟩
                  have Hst := Lib.hid (show (Instr.storeAt 86 (.pointer (some ⟨b14, 0, none⟩)) (.agg #[.int .i64 rows2, .int .i64 back2])).run Tryd.prog wy3 = .ok () wy4 by rw [hnew]; exact run_storeAt_row (P := Tryd.prog) (W := wy3) 86 b14 _ 86 [.int .i64 rows2, .int .i64 back2] (fun _ => by kernel_rfl) D14.out rfl (by intro v hv; simp only [List.mem_cons, List.not_mem_nil, or_false] at hv; rcases hv with rfl | rfl <;> rfl))
                  have hks := (show Keeps (fun b => b = b14) wy3 wy4 by rw [hnew]; exact ⟨rfl, rfl, rfl, by simp [World.setRow], fun b hb hne => setRow_other wy3 _ b _ (fun e => hne e)⟩)
                  have D14 := Lib.hid (show RvAt wy4 b14 rows2 back2 by rw [hnew]; exact setRow_heap _ _ _ _ _ (0, 0) D14.out)
                  have D15 := Lib.hid (D15.out.keeps hks (fun e => by have e : b15 = b14 := e; have := HNE.out; omega))
                  have ST := Lib.hid (ST.out.store hks (fun c e => by have e : c = b14 := e; rw [e]; exact N14.out.st))
                  have hk1 := hS0.trans' hks (fun b hb e => by have e : b = b14 := e; have := N14.out.2.2.2.2.2.1; omega)
                  have hlo : w10.heap.size ≤ wy4.heap.size := Nat.le_trans hlo hks.size
                  have N14 := Lib.hid (N14.out.alloc (W' := wy4) (fun _ h => h) hks.size)
                  have N15 := Lib.hid (N15.out.alloc (W' := wy4) (fun _ h => h) hks.size)
                  refine wpH_one (i := 15) (by kernel_rfl) (wpOp_skip (w' := wy4) (by rfl) (wanted_none (by rfl) _) (exec_store (a := .pointer (some ⟨b14, 0, none⟩)) (v := .agg #[.int .i64 rows2, .int .i64 back2]) rfl (by go_simp) (by go_simp) Hst.out) ⟨hk1, ?_⟩)
                  (try simp only [Act.put, List.setIfInBounds_toArray, List.set_cons_zero, List.set_cons_succ])
                  clear hS0 hks Hst hnew
                  have hS0 := hk1
                  clear hk1
                  obtain ⟨wy5, hnew⟩ : ∃ x, x = wy4.setRow b15 #[.int .i64 m, .int .i64 f2, .slice a2 n2 c2] := ⟨_, rfl⟩
                  have Hst := Lib.hid (show (Instr.storeAt 60 (.pointer (some ⟨b15, 0, none⟩)) (.agg #[.int .i64 m, .int .i64 f2, .slice a2 n2 c2])).run Tryd.prog wy4 = .ok () wy5 by rw [hnew]; exact run_storeAt_row (P := Tryd.prog) (W := wy4) 60 b15 _ 60 [.int .i64 m, .int .i64 f2, .slice a2 n2 c2] (fun _ => by kernel_rfl) D15.out rfl (by intro v hv; simp only [List.mem_cons, List.not_mem_nil, or_false] at hv; rcases hv with rfl | rfl | rfl <;> rfl))
                  have hks := (show Keeps (fun b => b = b15) wy4 wy5 by rw [hnew]; exact ⟨rfl, rfl, rfl, by simp [World.setRow], fun b hb hne => setRow_other wy4 _ b _ (fun e => hne e)⟩)
                  have D15 := Lib.hid (show HrAt wy5 b15 m f2 (.slice a2 n2 c2) by rw [hnew]; exact setRow_heap _ _ _ _ _ (0, 0) D15.out)
                  have D14 := Lib.hid (D14.out.keeps hks (fun e => by have e : b14 = b15 := e; have := HNE.out; omega))
                  have ST := Lib.hid (ST.out.store hks (fun c e => by have e : c = b15 := e; rw [e]; exact N15.out.st))
                  have hk1 := hS0.trans' hks (fun b hb e => by have e : b = b15 := e; have := N15.out.2.2.2.2.2.1; omega)
                  have hlo : w10.heap.size ≤ wy5.heap.size := Nat.le_trans hlo hks.size
                  have N14 := Lib.hid (N14.out.alloc (W' := wy5) (fun _ h => h) hks.size)
                  have N15 := Lib.hid (N15.out.alloc (W' := wy5) (fun _ h => h) hks.size)
                  refine wpH_one (i := 16) (by kernel_rfl) (wpOp_skip (w' := wy5) (by rfl) (wanted_none (by rfl) _) (exec_store (a := .pointer (some ⟨b15, 0, none⟩)) (v := .agg #[.int .i64 m, .int .i64 f2, .slice a2 n2 c2]) rfl (by go_simp) (by go_simp) Hst.out) ⟨hk1, ?_⟩)
                  (try simp only [Act.put, List.setIfInBounds_toArray, List.set_cons_zero, List.set_cons_succ])
                  clear hS0 hks Hst hnew
                  have hS0 := hk1
                  clear hk1
                  refine wpH_take (i := 17) (v := .bool true) hB (by rfl) (by kernel_rfl) (fun _ _ _ _ _ h => h) (by rfl) hS0 (fun W hI => by clear hI; go_simp) ?_; (try simp only [Act.put, List.setIfInBounds_toArray, List.set_cons_zero, List.set_cons_succ])
                  refine wpH_end (by kernel_rfl) ?_
                  clear hB hS0
                  go_wp2_with fail
                  go_meet
                  exact ⟨rows2, back2, f2, L2, _, _, a2, c2, b14, b15, rfl, rfl, rfl, ST.out.1, by rw [← Hn2.out]; exact ST.out.2.1, ST.out.2.2.1, D14.out, by rw [← Hn2.out]; exact D15.out, ST.out.2.2.2.1, ST.out.2.2.2.2.1, ST.out.2.2.2.2.2, ⟨N14.out.2.2.2.1, N14.out.2.2.2.2.1, N15.out.2.2.2.1, N15.out.2.2.2.2.1⟩, hr20, by rw [← Hn2.out]; exact p7, by rw [← Hn2.out]; exact p8⟩
                · obtain ⟨b15, hbb⟩ : ∃ b, b = wy1.heap.size := ⟨_, rfl⟩
                  obtain ⟨wy6, hnew⟩ : ∃ x, x = wy1.alloc (.cells #[.int .i64 0, .int .i64 0, .slice none 0 0] 60) := ⟨_, rfl⟩
                  have hal : Sees wy1 wy6 := by rw [hnew]; exact (Sees.refl wy1).alloc _
                  have D15 := Lib.hid (show HrAt wy6 b15 0 0 (.slice none 0 0) by rw [hnew]; exact HrAt.new hbb)
                  have hzn : wy6.heap.size = wy1.heap.size + 1 := by rw [hnew]; simp
                  obtain ⟨Zn, hst, hz1, hz2⟩ := ST.out.alloc hal
                  have N15 := Lib.hid (NwB.new (lo := w10.heap.size) ST.out hz2 hbb hzn hlo)
                  have ST := Lib.hid hst
                  have HZ0 := Lib.hid (fun c h => hz1 c (HZ0.out c h))
                  have hk1 := hS0.trans (Keeps.of_sees (F := Chg w Z) hal)
                  have hlo : w10.heap.size ≤ wy6.heap.size := by omega
                  refine wpOp_val (v := .pointer (some ⟨b15, 0, none⟩)) (w' := wy6) (by rfl) (wanted_none (by rfl) _) (by rw [hnew, hbb]; go_simp) ⟨hk1, ?_⟩
                  (try simp only [Act.put, List.setIfInBounds_toArray, List.set_cons_zero, List.set_cons_succ])
                  clear hS0 hal hzn hnew hbb hst hz1 hz2
                  have hS0 := hk1
                  clear hk1
                  obtain ⟨b14, hbb⟩ : ∃ b, b = wy6.heap.size := ⟨_, rfl⟩
                  obtain ⟨wy7, hnew⟩ : ∃ x, x = wy6.alloc (.cells #[.int .i64 0, .int .i64 0] 86) := ⟨_, rfl⟩
                  have hal : Sees wy6 wy7 := by rw [hnew]; exact (Sees.refl wy6).alloc _
                  have D14 := Lib.hid (show RvAt wy7 b14 0 0 by rw [hnew]; exact RvAt.new hbb)
                  have hzn : wy7.heap.size = wy6.heap.size + 1 := by rw [hnew]; simp
                  obtain ⟨Zn, hst, hz1, hz2⟩ := ST.out.alloc hal
                  have N14 := Lib.hid (NwB.new (lo := w10.heap.size) ST.out hz2 hbb hzn hlo)
                  have HNE : Hid (b15 ≠ b14) := Lib.hid (by have := N15.out.2.2.2.2.2.2; omega)
                  have N15 := Lib.hid (N15.out.alloc (W' := wy7) hz1 (by omega))
                  have D15 := Lib.hid (D15.out.sees hal)
                  have ST := Lib.hid hst
                  have HZ0 := Lib.hid (fun c h => hz1 c (HZ0.out c h))
                  have hk1 := hS0.trans (Keeps.of_sees (F := Chg w Z) hal)
                  have hlo : w10.heap.size ≤ wy7.heap.size := by omega
                  refine wpH_one (i := 13) (by kernel_rfl) (wpOp_val (v := .pointer (some ⟨b14, 0, none⟩)) (w' := wy7) (by rfl) (wanted_none (by rfl) _) (by rw [hnew, hbb]; go_simp) ⟨hk1, ?_⟩)
                  (try simp only [Act.put, List.setIfInBounds_toArray, List.set_cons_zero, List.set_cons_succ])
                  clear hS0 hal hzn hnew hbb hst hz1 hz2
                  have hS0 := hk1
                  clear hk1
                  obtain ⟨wy8, hnew⟩ : ∃ x, x = wy7.setRow b14 #[.int .i64 rows2, .int .i64 back2] := ⟨_, rfl⟩
                  have Hst := Lib.hid (show (Instr.storeAt 86 (.pointer (some ⟨b14, 0, none⟩)) (.agg #[.int .i64 rows2, .int .i64 back2])).run Tryd.prog wy7 = .ok () wy8 by rw [hnew]; exact run_storeAt_row (P := Tryd.prog) (W := wy7) 86 b14 _ 86 [.int .i64 rows2, .int .i64 back2] (fun _ => by kernel_rfl) D14.out rfl (by intro v hv; simp only [List.mem_cons, List.not_mem_nil, or_false] at hv; rcases hv with rfl | rfl <;> rfl))
                  have hks := (show Keeps (fun b => b = b14) wy7 wy8 by rw [hnew]; exact ⟨rfl, rfl, rfl, by simp [World.setRow], fun b hb hne => setRow_other wy7 _ b _ (fun e => hne e)⟩)
                  have D14 := Lib.hid (show RvAt wy8 b14 rows2 back2 by rw [hnew]; exact setRow_heap _ _ _ _ _ (0, 0) D14.out)
                  have D15 := Lib.hid (D15.out.keeps hks (fun e => by have e : b15 = b14 := e; have := HNE.out; omega))
                  have ST := Lib.hid (ST.out.store hks (fun c e => by have e : c = b14 := e; rw [e]; exact N14.out.st))
                  have hk1 := hS0.trans' hks (fun b hb e => by have e : b = b14 := e; have := N14.out.2.2.2.2.2.1; omega)
                  have hlo : w10.heap.size ≤ wy8.heap.size := Nat.le_trans hlo hks.size
                  have N14 := Lib.hid (N14.out.alloc (W' := wy8) (fun _ h => h) hks.size)
                  have N15 := Lib.hid (N15.out.alloc (W' := wy8) (fun _ h => h) hks.size)
                  refine wpH_one (i := 15) (by kernel_rfl) (wpOp_skip (w' := wy8) (by rfl) (wanted_none (by rfl) _) (exec_store (a := .pointer (some ⟨b14, 0, none⟩)) (v := .agg #[.int .i64 rows2, .int .i64 back2]) rfl (by go_simp) (by go_simp) Hst.out) ⟨hk1, ?_⟩)
                  (try simp only [Act.put, List.setIfInBounds_toArray, List.set_cons_zero, List.set_cons_succ])
                  clear hS0 hks Hst hnew
                  have hS0 := hk1
                  clear hk1
                  obtain ⟨wy9, hnew⟩ : ∃ x, x = wy8.setRow b15 #[.int .i64 m, .int .i64 f2, .slice a2 n2 c2] := ⟨_, rfl⟩
                  have Hst := Lib.hid (show (Instr.storeAt 60 (.pointer (some ⟨b15, 0, none⟩)) (.agg #[.int .i64 m, .int .i64 f2, .slice a2 n2 c2])).run Tryd.prog wy8 = .ok () wy9 by rw [hnew]; exact run_storeAt_row (P := Tryd.prog) (W := wy8) 60 b15 _ 60 [.int .i64 m, .int .i64 f2, .slice a2 n2 c2] (fun _ => by kernel_rfl) D15.out rfl (by intro v hv; simp only [List.mem_cons, List.not_mem_nil, or_false] at hv; rcases hv with rfl | rfl | rfl <;> rfl))
                  have hks := (show Keeps (fun b => b = b15) wy8 wy9 by rw [hnew]; exact ⟨rfl, rfl, rfl, by simp [World.setRow], fun b hb hne => setRow_other wy8 _ b _ (fun e => hne e)⟩)
                  have D15 := Lib.hid (show HrAt wy9 b15 m f2 (.slice a2 n2 c2) by rw [hnew]; exact setRow_heap _ _ _ _ _ (0, 0) D15.out)
                  have D14 := Lib.hid (D14.out.keeps hks (fun e => by have e : b14 = b15 := e; have := HNE.out; omega))
                  have ST := Lib.hid (ST.out.store hks (fun c e => by have e : c = b15 := e; rw [e]; exact N15.out.st))
                  have hk1 := hS0.trans' hks (fun b hb e => by have e : b = b15 := e; have := N15.out.2.2.2.2.2.1; omega)
                  have hlo : w10.heap.size ≤ wy9.heap.size := Nat.le_trans hlo hks.size
                  have N14 := Lib.hid (N14.out.alloc (W' := wy9) (fun _ h => h) hks.size)
                  have N15 := Lib.hid (N15.out.alloc (W' := wy9) (fun _ h => h) hks.size)
                  refine wpH_one (i := 16) (by kernel_rfl) (wpOp_skip (w' := wy9) (by rfl) (wanted_none (by rfl) _) (exec_store (a := .pointer (some ⟨b15, 0, none⟩)) (v := .agg #[.int .i64 m, .int .i64 f2, .slice a2 n2 c2]) rfl (by go_simp) (by go_simp) Hst.out) ⟨hk1, ?_⟩)
                  (try simp only [Act.put, List.setIfInBounds_toArray, List.set_cons_zero, List.set_cons_succ])
                  clear hS0 hks Hst hnew
                  have hS0 := hk1
                  clear hk1
                  refine wpH_take (i := 17) (v := .bool true) hB (by rfl) (by kernel_rfl) (fun _ _ _ _ _ h => h) (by rfl) hS0 (fun W hI => by clear hI; go_simp) ?_; (try simp only [Act.put, List.setIfInBounds_toArray, List.set_cons_zero, List.set_cons_succ])
                  refine wpH_end (by kernel_rfl) ?_
                  clear hB hS0
                  go_wp2_with fail
                  go_meet
                  exact ⟨rows2, back2, f2, L2, _, _, a2, c2, b14, b15, rfl, rfl, rfl, ST.out.1, by rw [← Hn2.out]; exact ST.out.2.1, ST.out.2.2.1, D14.out, by rw [← Hn2.out]; exact D15.out, ST.out.2.2.2.1, ST.out.2.2.2.2.1, ST.out.2.2.2.2.2, ⟨N14.out.2.2.2.1, N14.out.2.2.2.2.1, N15.out.2.2.2.1, N15.out.2.2.2.2.1⟩, hr20, by rw [← Hn2.out]; exact p7, by rw [← Hn2.out]; exact p8⟩
              · obtain ⟨b14, hbb⟩ : ∃ b, b = w10.heap.size := ⟨_, rfl⟩
                obtain ⟨wy10, hnew⟩ : ∃ x, x = w10.alloc (.cells #[.int .i64 0, .int .i64 0] 86) := ⟨_, rfl⟩
                have hal : Sees w10 wy10 := by rw [hnew]; exact (Sees.refl w10).alloc _
                have D14 := Lib.hid (show RvAt wy10 b14 0 0 by rw [hnew]; exact RvAt.new hbb)
                have hzn : wy10.heap.size = w10.heap.size + 1 := by rw [hnew]; simp
                obtain ⟨Zn, hst, hz1, hz2⟩ := ST.out.alloc hal
                have N14 := Lib.hid (NwB.new (lo := w10.heap.size) ST.out hz2 hbb hzn hlo)
                have ST := Lib.hid hst
                have HZ0 := Lib.hid (fun c h => hz1 c (HZ0.out c h))
                have hk1 := hS0.trans (Keeps.of_sees (F := Chg w Z) hal)
                have hlo : w10.heap.size ≤ wy10.heap.size := by omega
                refine wpOp_val (v := .pointer (some ⟨b14, 0, none⟩)) (w' := wy10) (by rfl) (wanted_none (by rfl) _) (by rw [hnew, hbb]; go_simp) ⟨hk1, ?_⟩
                (try simp only [Act.put, List.setIfInBounds_toArray, List.set_cons_zero, List.set_cons_succ])
                clear hS0 hal hzn hnew hbb hst hz1 hz2
                have hS0 := hk1
                clear hk1
                refine wpH_two (i := 8) (j := 14) (by kernel_rfl) ?_ ?_
                · refine wpOp_enter (fn := 54) (args := #[.pointer (some ⟨vb, 0, none⟩), .pointer (some ⟨hb, 0, none⟩), .agg #[.int .i64 rows, .int .i64 back], .agg #[.int .i64 m, .int .i64 f, .slice a n c], .agg #[.int .i64 what, .int .i64 num]]) (by rfl) (by rfl) (by go_simp) ((does32_any what hw0 hw5 Ht.out ST.out.1 ST.out.2.1 ST.out.2.2.1 Hn.out (by omega) hbn (by omega)).mono ?_)
                  rintro e wy11 ⟨rows2, back2, f3, L2, v2, Z2, rfl, p1, p2, p3, p4, p5, p6, p7, p8⟩
                  have fa2 := p1.facts
                  have hv2 := p1.vw.2.2.1
                  obtain ⟨f2, rfl⟩ : ∃ f2 : Nat, f3 = f2 := ⟨f3.toNat, by omega⟩
                  obtain ⟨a2, c2, rfl, _⟩ := p2.slice'
                  obtain ⟨n2, hn2⟩ : ∃ n2, n2 = L2.length := ⟨_, rfl⟩
                  rw [← hn2] at p2 p7 p8 ⊢
                  have Hn2 := Lib.hid hn2
                  have hr20 : rows2 ≤ 20 := by
                    rcases p6 with h | ⟨h, h2⟩
                    · omega
                    · have := Hnum.out h; omega
                  have hk1 := hS0.trans (p5.mono (fun c _ e => (⟨fun h => e.1 (HZ0.out c h), e.2⟩ : Chg w Z c)))
                  have hlo : w10.heap.size ≤ wy11.heap.size := Nat.le_trans hlo p5.size
                  have D14 := Lib.hid (D14.out.keeps p5 (fun e => e.1 N14.out.1))
                  have N14 := Lib.hid (N14.out.call p3 p5.size)
                  have ST := Lib.hid (ST.out.call p1 p2 p3 p5)
                  have HZ0 := Lib.hid (fun c h => p3 c (HZ0.out c h))
                  refine ⟨_, rfl, hk1, ?_⟩
                  clear hS0 p1 p2 p3 p4 p5 p6 hn2 fa2
                  have hS0 := hk1
                  clear hk1
                  (try simp only [Act.put, List.setIfInBounds_toArray, List.set_cons_zero, List.set_cons_succ])
                  refine wpH_take (i := 9) (v := .tuple #[.agg #[.int .i64 rows2, .int .i64 back2], .agg #[.int .i64 m, .int .i64 f2, .slice a2 n2 c2], .bool true]) hB (by rfl) (by kernel_rfl) (fun _ _ _ _ _ h => h) (by rfl) hS0 (fun W hI => by clear hI; go_simp) ?_; (try simp only [Act.put, List.setIfInBounds_toArray, List.set_cons_zero, List.set_cons_succ])
                  refine wpH_take (i := 10) (v := .agg #[.int .i64 rows2, .int .i64 back2]) hB (by rfl) (by kernel_rfl) (fun _ _ _ _ _ h => h) (by rfl) hS0 (fun W hI => by clear hI; go_simp) ?_; (try simp only [Act.put, List.setIfInBounds_toArray, List.set_cons_zero, List.set_cons_succ])
                  refine wpH_take (i := 11) (v := .agg #[.int .i64 m, .int .i64 f2, .slice a2 n2 c2]) hB (by rfl) (by kernel_rfl) (fun _ _ _ _ _ h => h) (by rfl) hS0 (fun W hI => by clear hI; go_simp) ?_; (try simp only [Act.put, List.setIfInBounds_toArray, List.set_cons_zero, List.set_cons_succ])
                  refine wpH_take (i := 12) (v := .bool true) hB (by rfl) (by kernel_rfl) (fun _ _ _ _ _ h => h) (by rfl) hS0 (fun W hI => by clear hI; go_simp) ?_; (try simp only [Act.put, List.setIfInBounds_toArray, List.set_cons_zero, List.set_cons_succ])
                  obtain ⟨b15, hbb⟩ : ∃ b, b = wy11.heap.size := ⟨_, rfl⟩
                  obtain ⟨wy12, hnew⟩ : ∃ x, x = wy11.alloc (.cells #[.int .i64 0, .int .i64 0, .slice none 0 0] 60) := ⟨_, rfl⟩
                  have hal : Sees wy11 wy12 := by rw [hnew]; exact (Sees.refl wy11).alloc _
                  have D15 := Lib.hid (show HrAt wy12 b15 0 0 (.slice none 0 0) by rw [hnew]; exact HrAt.new hbb)
                  have hzn : wy12.heap.size = wy11.heap.size + 1 := by rw [hnew]; simp
                  obtain ⟨Zn, hst, hz1, hz2⟩ := ST.out.alloc hal
                  have N15 := Lib.hid (NwB.new (lo := w10.heap.size) ST.out hz2 hbb hzn hlo)
                  have HNE : Hid (b14 ≠ b15) := Lib.hid (by have := N14.out.2.2.2.2.2.2; omega)
                  have N14 := Lib.hid (N14.out.alloc (W' := wy12) hz1 (by omega))
                  have D14 := Lib.hid (D14.out.sees hal)
                  have ST := Lib.hid hst
                  have HZ0 := Lib.hid (fun c h => hz1 c (HZ0.out c h))
                  have hk1 := hS0.trans (Keeps.of_sees (F := Chg w Z) hal)
                  have hlo : w10.heap.size ≤ wy12.heap.size := by omega
                  refine wpH_one (i := 14) (by kernel_rfl) (wpOp_val (v := .pointer (some ⟨b15, 0, none⟩)) (w' := wy12) (by rfl) (wanted_none (by rfl) _) (by rw [hnew, hbb]; go_simp) ⟨hk1, ?_⟩)
                  (try simp only [Act.put, List.setIfInBounds_toArray, List.set_cons_zero, List.set_cons_succ])
                  clear hS0 hal hzn hnew hbb hst hz1 hz2
                  have hS0 := hk1
                  clear hk1
                  obtain ⟨wy13, hnew⟩ : ∃ x, x = wy12.setRow b14 #[.int .i64 rows2, .int .i64 back2] := ⟨_, rfl⟩
                  have Hst := Lib.hid (show (Instr.storeAt 86 (.pointer (some ⟨b14, 0, none⟩)) (.agg #[.int .i64 rows2, .int .i64 back2])).run Tryd.prog wy12 = .ok () wy13 by rw [hnew]; exact run_storeAt_row (P := Tryd.prog) (W := wy12) 86 b14 _ 86 [.int .i64 rows2, .int .i64 back2] (fun _ => by kernel_rfl) D14.out rfl (by intro v hv; simp only [List.mem_cons, List.not_mem_nil, or_false] at hv; rcases hv with rfl | rfl <;> rfl))
                  have hks := (show Keeps (fun b => b = b14) wy12 wy13 by rw [hnew]; exact ⟨rfl, rfl, rfl, by simp [World.setRow], fun b hb hne => setRow_other wy12 _ b _ (fun e => hne e)⟩)
                  have D14 := Lib.hid (show RvAt wy13 b14 rows2 back2 by rw [hnew]; exact setRow_heap _ _ _ _ _ (0, 0) D14.out)
                  have D15 := Lib.hid (D15.out.keeps hks (fun e => by have e : b15 = b14 := e; have := HNE.out; omega))
                  have ST := Lib.hid (ST.out.store hks (fun c e => by have e : c = b14 := e; rw [e]; exact N14.out.st))
                  have hk1 := hS0.trans' hks (fun b hb e => by have e : b = b14 := e; have := N14.out.2.2.2.2.2.1; omega)
                  have hlo : w10.heap.size ≤ wy13.heap.size := Nat.le_trans hlo hks.size
                  have N14 := Lib.hid (N14.out.alloc (W' := wy13) (fun _ h => h) hks.size)
                  have N15 := Lib.hid (N15.out.alloc (W' := wy13) (fun _ h => h) hks.size)
                  refine wpH_one (i := 15) (by kernel_rfl) (wpOp_skip (w' := wy13) (by rfl) (wanted_none (by rfl) _) (exec_store (a := .pointer (some ⟨b14, 0, none⟩)) (v := .agg #[.int .i64 rows2, .int .i64 back2]) rfl (by go_simp) (by go_simp) Hst.out) ⟨hk1, ?_⟩)
                  (try simp only [Act.put, List.setIfInBounds_toArray, List.set_cons_zero, List.set_cons_succ])
                  clear hS0 hks Hst hnew
                  have hS0 := hk1
                  clear hk1
                  obtain ⟨wy14, hnew⟩ : ∃ x, x = wy13.setRow b15 #[.int .i64 m, .int .i64 f2, .slice a2 n2 c2] := ⟨_, rfl⟩
                  have Hst := Lib.hid (show (Instr.storeAt 60 (.pointer (some ⟨b15, 0, none⟩)) (.agg #[.int .i64 m, .int .i64 f2, .slice a2 n2 c2])).run Tryd.prog wy13 = .ok () wy14 by rw [hnew]; exact run_storeAt_row (P := Tryd.prog) (W := wy13) 60 b15 _ 60 [.int .i64 m, .int .i64 f2, .slice a2 n2 c2] (fun _ => by kernel_rfl) D15.out rfl (by intro v hv; simp only [List.mem_cons, List.not_mem_nil, or_false] at hv; rcases hv with rfl | rfl | rfl <;> rfl))
                  have hks := (show Keeps (fun b => b = b15) wy13 wy14 by rw [hnew]; exact ⟨rfl, rfl, rfl, by simp [World.setRow], fun b hb hne => setRow_other wy13 _ b _ (fun e => hne e)⟩)
                  have D15 := Lib.hid (show HrAt wy14 b15 m f2 (.slice a2 n2 c2) by rw [hnew]; exact setRow_heap _ _ _ _ _ (0, 0) D15.out)
                  have D14 := Lib.hid (D14.out.keeps hks (fun e => by have e : b14 = b15 := e; have := HNE.out; omega))
                  have ST := Lib.hid (ST.out.store hks (fun c e => by have e : c = b15 := e; rw [e]; exact N15.out.st))
                  have hk1 := hS0.trans' hks (fun b hb e => by have e : b = b15 := e; have := N15.out.2.2.2.2.2.1; omega)
                  have hlo : w10.heap.size ≤ wy14.heap.size := Nat.le_trans hlo hks.size
                  have N14 := Lib.hid (N14.out.alloc (W' := wy14) (fun _ h => h) hks.size)
                  have N15 := Lib.hid (N15.out.alloc (W' := wy14) (fun _ h => h) hks.size)
                  refine wpH_one (i := 16) (by kernel_rfl) (wpOp_skip (w' := wy14) (by rfl) (wanted_none (by rfl) _) (exec_store (a := .pointer (some ⟨b15, 0, none⟩)) (v := .agg #[.int .i64 m, .int .i64 f2, .slice a2 n2 c2]) rfl (by go_simp) (by go_simp) Hst.out) ⟨hk1, ?_⟩)
                  (try simp only [Act.put, List.setIfInBounds_toArray, List.set_cons_zero, List.set_cons_succ])
                  clear hS0 hks Hst hnew
                  have hS0 := hk1
                  clear hk1
                  refine wpH_take (i := 17) (v := .bool true) hB (by rfl) (by kernel_rfl) (fun _ _ _ _ _ h => h) (by rfl) hS0 (fun W hI => by clear hI; go_simp) ?_; (try simp only [Act.put, List.setIfInBounds_toArray, List.set_cons_zero, List.set_cons_succ])
                  refine wpH_end (by kernel_rfl) ?_
                  clear hB hS0
                  go_wp2_with fail
                  go_meet
                  exact ⟨rows2, back2, f2, L2, _, _, a2, c2, b14, b15, rfl, rfl, rfl, ST.out.1, by rw [← Hn2.out]; exact ST.out.2.1, ST.out.2.2.1, D14.out, by rw [← Hn2.out]; exact D15.out, ST.out.2.2.2.1, ST.out.2.2.2.2.1, ST.out.2.2.2.2.2, ⟨N14.out.2.2.2.1, N14.out.2.2.2.2.1, N15.out.2.2.2.1, N15.out.2.2.2.2.1⟩, hr20, by rw [← Hn2.out]; exact p7, by rw [← Hn2.out]; exact p8⟩
                · obtain ⟨b15, hbb⟩ : ∃ b, b = wy10.heap.size := ⟨_, rfl⟩
                  obtain ⟨wy15, hnew⟩ : ∃ x, x = wy10.alloc (.cells #[.int .i64 0, .int .i64 0, .slice none 0 0] 60) := ⟨_, rfl⟩
                  have hal : Sees wy10 wy15 := by rw [hnew]; exact (Sees.refl wy10).alloc _
                  have D15 := Lib.hid (show HrAt wy15 b15 0 0 (.slice none 0 0) by rw [hnew]; exact HrAt.new hbb)
                  have hzn : wy15.heap.size = wy10.heap.size + 1 := by rw [hnew]; simp
                  obtain ⟨Zn, hst, hz1, hz2⟩ := ST.out.alloc hal
                  have N15 := Lib.hid (NwB.new (lo := w10.heap.size) ST.out hz2 hbb hzn hlo)
                  have HNE : Hid (b14 ≠ b15) := Lib.hid (by have := N14.out.2.2.2.2.2.2; omega)
                  have N14 := Lib.hid (N14.out.alloc (W' := wy15) hz1 (by omega))
                  have D14 := Lib.hid (D14.out.sees hal)
                  have ST := Lib.hid hst
                  have HZ0 := Lib.hid (fun c h => hz1 c (HZ0.out c h))
                  have hk1 := hS0.trans (Keeps.of_sees (F := Chg w Z) hal)
                  have hlo : w10.heap.size ≤ wy15.heap.size := by omega
                  refine wpOp_val (v := .pointer (some ⟨b15, 0, none⟩)) (w' := wy15) (by rfl) (wanted_none (by rfl) _) (by rw [hnew, hbb]; go_simp) ⟨hk1, ?_⟩
                  (try simp only [Act.put, List.setIfInBounds_toArray, List.set_cons_zero, List.set_cons_succ])
                  clear hS0 hal hzn hnew hbb hst hz1 hz2
                  have hS0 := hk1
                  clear hk1
                  refine wpH_one (i := 8) (by kernel_rfl) (wpOp_enter (fn := 54) (args := #[.pointer (some ⟨vb, 0, none⟩), .pointer (some ⟨hb, 0, none⟩), .agg #[.int .i64 rows, .int .i64 back], .agg #[.int .i64 m, .int .i64 f, .slice a n c], .agg #[.int .i64 what, .int .i64 num]]) (by rfl) (by rfl) (by go_simp) ((does32_any what hw0 hw5 Ht.out ST.out.1 ST.out.2.1 ST.out.2.2.1 Hn.out (by omega) hbn (by omega)).mono ?_))
                  rintro e wy16 ⟨rows2, back2, f3, L2, v2, Z2, rfl, p1, p2, p3, p4, p5, p6, p7, p8⟩
                  have fa2 := p1.facts
                  have hv2 := p1.vw.2.2.1
                  obtain ⟨f2, rfl⟩ : ∃ f2 : Nat, f3 = f2 := ⟨f3.toNat, by omega⟩
                  obtain ⟨a2, c2, rfl, _⟩ := p2.slice'
                  obtain ⟨n2, hn2⟩ : ∃ n2, n2 = L2.length := ⟨_, rfl⟩
                  rw [← hn2] at p2 p7 p8 ⊢
                  have Hn2 := Lib.hid hn2
                  have hr20 : rows2 ≤ 20 := by
                    rcases p6 with h | ⟨h, h2⟩
                    · omega
                    · have := Hnum.out h; omega
                  have hk1 := hS0.trans (p5.mono (fun c _ e => (⟨fun h => e.1 (HZ0.out c h), e.2⟩ : Chg w Z c)))
                  have hlo : w10.heap.size ≤ wy16.heap.size := Nat.le_trans hlo p5.size
                  have D14 := Lib.hid (D14.out.keeps p5 (fun e => e.1 N14.out.1))
                  have N14 := Lib.hid (N14.out.call p3 p5.size)
                  have D15 := Lib.hid (D15.out.keeps p5 (fun e => e.1 N15.out.1))
                  have N15 := Lib.hid (N15.out.call p3 p5.size)
                  have ST := Lib.hid (ST.out.call p1 p2 p3 p5)
                  have HZ0 := Lib.hid (fun c h => p3 c (HZ0.out c h))
                  refine ⟨_, rfl, hk1, ?_⟩
                  clear hS0 p1 p2 p3 p4 p5 p6 hn2 fa2
                  have hS0 := hk1
                  clear hk1
                  (try simp only [Act.put, List.setIfInBounds_toArray, List.set_cons_zero, List.set_cons_succ])
                  refine wpH_take (i := 9) (v := .tuple #[.agg #[.int .i64 rows2, .int .i64 back2], .agg #[.int .i64 m, .int .i64 f2, .slice a2 n2 c2], .bool true]) hB (by rfl) (by kernel_rfl) (fun _ _ _ _ _ h => h) (by rfl) hS0 (fun W hI => by clear hI; go_simp) ?_; (try simp only [Act.put, List.setIfInBounds_toArray, List.set_cons_zero, List.set_cons_succ])
                  refine wpH_take (i := 10) (v := .agg #[.int .i64 rows2, .int .i64 back2]) hB (by rfl) (by kernel_rfl) (fun _ _ _ _ _ h => h) (by rfl) hS0 (fun W hI => by clear hI; go_simp) ?_; (try simp only [Act.put, List.setIfInBounds_toArray, List.set_cons_zero, List.set_cons_succ])
                  refine wpH_take (i := 11) (v := .agg #[.int .i64 m, .int .i64 f2, .slice a2 n2 c2]) hB (by rfl) (by kernel_rfl) (fun _ _ _ _ _ h => h) (by rfl) hS0 (fun W hI => by clear hI; go_simp) ?_; (try simp only [Act.put, List.setIfInBounds_toArray, List.set_cons_zero, List.set_cons_succ])
                  refine wpH_take (i := 12) (v := .bool true) hB (by rfl) (by kernel_rfl) (fun _ _ _ _ _ h => h) (by rfl) hS0 (fun W hI => by clear hI; go_simp) ?_; (try simp only [Act.put, List.setIfInBounds_toArray, List.set_cons_zero, List.set_cons_succ])
                  obtain ⟨wy17, hnew⟩ : ∃ x, x = wy16.setRow b14 #[.int .i64 rows2, .int .i64 back2] := ⟨_, rfl⟩
                  have Hst := Lib.hid (show (Instr.storeAt 86 (.pointer (some ⟨b14, 0, none⟩)) (.agg #[.int .i64 rows2, .int .i64 back2])).run Tryd.prog wy16 = .ok () wy17 by rw [hnew]; exact run_storeAt_row (P := Tryd.prog) (W := wy16) 86 b14 _ 86 [.int .i64 rows2, .int .i64 back2] (fun _ => by kernel_rfl) D14.out rfl (by intro v hv; simp only [List.mem_cons, List.not_mem_nil, or_false] at hv; rcases hv with rfl | rfl <;> rfl))
                  have hks := (show Keeps (fun b => b = b14) wy16 wy17 by rw [hnew]; exact ⟨rfl, rfl, rfl, by simp [World.setRow], fun b hb hne => setRow_other wy16 _ b _ (fun e => hne e)⟩)
                  have D14 := Lib.hid (show RvAt wy17 b14 rows2 back2 by rw [hnew]; exact setRow_heap _ _ _ _ _ (0, 0) D14.out)
                  have D15 := Lib.hid (D15.out.keeps hks (fun e => by have e : b15 = b14 := e; have := HNE.out; omega))
                  have ST := Lib.hid (ST.out.store hks (fun c e => by have e : c = b14 := e; rw [e]; exact N14.out.st))
                  have hk1 := hS0.trans' hks (fun b hb e => by have e : b = b14 := e; have := N14.out.2.2.2.2.2.1; omega)
                  have hlo : w10.heap.size ≤ wy17.heap.size := Nat.le_trans hlo hks.size
                  have N14 := Lib.hid (N14.out.alloc (W' := wy17) (fun _ h => h) hks.size)
                  have N15 := Lib.hid (N15.out.alloc (W' := wy17) (fun _ h => h) hks.size)
                  refine wpH_one (i := 15) (by kernel_rfl) (wpOp_skip (w' := wy17) (by rfl) (wanted_none (by rfl) _) (exec_store (a := .pointer (some ⟨b14, 0, none⟩)) (v := .agg #[.int .i64 rows2, .int .i64 back2]) rfl (by go_simp) (by go_simp) Hst.out) ⟨hk1, ?_⟩)
                  (try simp only [Act.put, List.setIfInBounds_toArray, List.set_cons_zero, List.set_cons_succ])
                  clear hS0 hks Hst hnew
                  have hS0 := hk1
                  clear hk1
                  obtain ⟨wy18, hnew⟩ : ∃ x, x = wy17.setRow b15 #[.int .i64 m, .int .i64 f2, .slice a2 n2 c2] := ⟨_, rfl⟩
                  have Hst := Lib.hid (show (Instr.storeAt 60 (.pointer (some ⟨b15, 0, none⟩)) (.agg #[.int .i64 m, .int .i64 f2, .slice a2 n2 c2])).run Tryd.prog wy17 = .ok () wy18 by rw [hnew]; exact run_storeAt_row (P := Tryd.prog) (W := wy17) 60 b15 _ 60 [.int .i64 m, .int .i64 f2, .slice a2 n2 c2] (fun _ => by kernel_rfl) D15.out rfl (by intro v hv; simp only [List.mem_cons, List.not_mem_nil, or_false] at hv; rcases hv with rfl | rfl | rfl <;> rfl))
                  have hks := (show Keeps (fun b => b = b15) wy17 wy18 by rw [hnew]; exact ⟨rfl, rfl, rfl, by simp [World.setRow], fun b hb hne => setRow_other wy17 _ b _ (fun e => hne e)⟩)
                  have D15 := Lib.hid (show HrAt wy18 b15 m f2 (.slice a2 n2 c2) by rw [hnew]; exact setRow_heap _ _ _ _ _ (0, 0) D15.out)
                  have D14 := Lib.hid (D14.out.keeps hks (fun e => by have e : b14 = b15 := e; have := HNE.out; omega))
                  have ST := Lib.hid (ST.out.store hks (fun c e => by have e : c = b15 := e; rw [e]; exact N15.out.st))
                  have hk1 := hS0.trans' hks (fun b hb e => by have e : b = b15 := e; have := N15.out.2.2.2.2.2.1; omega)
                  have hlo : w10.heap.size ≤ wy18.heap.size := Nat.le_trans hlo hks.size
                  have N14 := Lib.hid (N14.out.alloc (W' := wy18) (fun _ h => h) hks.size)
                  have N15 := Lib.hid (N15.out.alloc (W' := wy18) (fun _ h => h) hks.size)
                  refine wpH_one (i := 16) (by kernel_rfl) (wpOp_skip (w' := wy18) (by rfl) (wanted_none (by rfl) _) (exec_store (a := .pointer (some ⟨b15, 0, none⟩)) (v := .agg #[.int .i64 m, .int .i64 f2, .slice a2 n2 c2]) rfl (by go_simp) (by go_simp) Hst.out) ⟨hk1, ?_⟩)
                  (try simp only [Act.put, List.setIfInBounds_toArray, List.set_cons_zero, List.set_cons_succ])
                  clear hS0 hks Hst hnew
                  have hS0 := hk1
                  clear hk1
                  refine wpH_take (i := 17) (v := .bool true) hB (by rfl) (by kernel_rfl) (fun _ _ _ _ _ h => h) (by rfl) hS0 (fun W hI => by clear hI; go_simp) ?_; (try simp only [Act.put, List.setIfInBounds_toArray, List.set_cons_zero, List.set_cons_succ])
                  refine wpH_end (by kernel_rfl) ?_
                  clear hB hS0
                  go_wp2_with fail
                  go_meet
                  exact ⟨rows2, back2, f2, L2, _, _, a2, c2, b14, b15, rfl, rfl, rfl, ST.out.1, by rw [← Hn2.out]; exact ST.out.2.1, ST.out.2.2.1, D14.out, by rw [← Hn2.out]; exact D15.out, ST.out.2.2.2.1, ST.out.2.2.2.2.1, ST.out.2.2.2.2.2, ⟨N14.out.2.2.2.1, N14.out.2.2.2.2.1, N15.out.2.2.2.1, N15.out.2.2.2.2.1⟩, hr20, by rw [← Hn2.out]; exact p7, by rw [← Hn2.out]; exact p8⟩
              · obtain ⟨b15, hbb⟩ : ∃ b, b = w10.heap.size := ⟨_, rfl⟩
                obtain ⟨wy19, hnew⟩ : ∃ x, x = w10.alloc (.cells #[.int .i64 0, .int .i64 0, .slice none 0 0] 60) := ⟨_, rfl⟩
                have hal : Sees w10 wy19 := by rw [hnew]; exact (Sees.refl w10).alloc _
                have D15 := Lib.hid (show HrAt wy19 b15 0 0 (.slice none 0 0) by rw [hnew]; exact HrAt.new hbb)
                have hzn : wy19.heap.size = w10.heap.size + 1 := by rw [hnew]; simp
                obtain ⟨Zn, hst, hz1, hz2⟩ := ST.out.alloc hal
                have N15 := Lib.hid (NwB.new (lo := w10.heap.size) ST.out hz2 hbb hzn hlo)
                have ST := Lib.hid hst
                have HZ0 := Lib.hid (fun c h => hz1 c (HZ0.out c h))
                have hk1 := hS0.trans (Keeps.of_sees (F := Chg w Z) hal)
                have hlo : w10.heap.size ≤ wy19.heap.size := by omega
                refine wpOp_val (v := .pointer (some ⟨b15, 0, none⟩)) (w' := wy19) (by rfl) (wanted_none (by rfl) _) (by rw [hnew, hbb]; go_simp) ⟨hk1, ?_⟩
                (try simp only [Act.put, List.setIfInBounds_toArray, List.set_cons_zero, List.set_cons_succ])
                clear hS0 hal hzn hnew hbb hst hz1 hz2
                have hS0 := hk1
                clear hk1
                refine wpH_two (i := 8) (j := 13) (by kernel_rfl) ?_ ?_
                · refine wpOp_enter (fn := 54) (args := #[.pointer (some ⟨vb, 0, none⟩), .pointer (some ⟨hb, 0, none⟩), .agg #[.int .i64 rows, .int .i64 back], .agg #[.int .i64 m, .int .i64 f, .slice a n c], .agg #[.int .i64 what, .int .i64 num]]) (by rfl) (by rfl) (by go_simp) ((does32_any what hw0 hw5 Ht.out ST.out.1 ST.out.2.1 ST.out.2.2.1 Hn.out (by omega) hbn (by omega)).mono ?_)
                  rintro e wy20 ⟨rows2, back2, f3, L2, v2, Z2, rfl, p1, p2, p3, p4, p5, p6, p7, p8⟩
                  have fa2 := p1.facts
                  have hv2 := p1.vw.2.2.1
                  obtain ⟨f2, rfl⟩ : ∃ f2 : Nat, f3 = f2 := ⟨f3.toNat, by omega⟩
                  obtain ⟨a2, c2, rfl, _⟩ := p2.slice'
                  obtain ⟨n2, hn2⟩ : ∃ n2, n2 = L2.length := ⟨_, rfl⟩
                  rw [← hn2] at p2 p7 p8 ⊢
                  have Hn2 := Lib.hid hn2
                  have hr20 : rows2 ≤ 20 := by
                    rcases p6 with h | ⟨h, h2⟩
                    · omega
                    · have := Hnum.out h; omega
                  have hk1 := hS0.trans (p5.mono (fun c _ e => (⟨fun h => e.1 (HZ0.out c h), e.2⟩ : Chg w Z c)))
                  have hlo : w10.heap.size ≤ wy20.heap.size := Nat.le_trans hlo p5.size
                  have D15 := Lib.hid (D15.out.keeps p5 (fun e => e.1 N15.out.1))
                  have N15 := Lib.hid (N15.out.call p3 p5.size)
                  have ST := Lib.hid (ST.out.call p1 p2 p3 p5)
                  have HZ0 := Lib.hid (fun c h => p3 c (HZ0.out c h))
                  refine ⟨_, rfl, hk1, ?_⟩
                  clear hS0 p1 p2 p3 p4 p5 p6 hn2 fa2
                  have hS0 := hk1
                  clear hk1
                  (try simp only [Act.put, List.setIfInBounds_toArray, List.set_cons_zero, List.set_cons_succ])
                  refine wpH_take (i := 9) (v := .tuple #[.agg #[.int .i64 rows2, .int .i64 back2], .agg #[.int .i64 m, .int .i64 f2, .slice a2 n2 c2], .bool true]) hB (by rfl) (by kernel_rfl) (fun _ _ _ _ _ h => h) (by rfl) hS0 (fun W hI => by clear hI; go_simp) ?_; (try simp only [Act.put, List.setIfInBounds_toArray, List.set_cons_zero, List.set_cons_succ])
                  refine wpH_take (i := 10) (v := .agg #[.int .i64 rows2, .int .i64 back2]) hB (by rfl) (by kernel_rfl) (fun _ _ _ _ _ h => h) (by rfl) hS0 (fun W hI => by clear hI; go_simp) ?_; (try simp only [Act.put, List.setIfInBounds_toArray, List.set_cons_zero, List.set_cons_succ])
                  refine wpH_take (i := 11) (v := .agg #[.int .i64 m, .int .i64 f2, .slice a2 n2 c2]) hB (by rfl) (by kernel_rfl) (fun _ _ _ _ _ h => h) (by rfl) hS0 (fun W hI => by clear hI; go_simp) ?_; (try simp only [Act.put, List.setIfInBounds_toArray, List.set_cons_zero, List.set_cons_succ])
                  refine wpH_take (i := 12) (v := .bool true) hB (by rfl) (by kernel_rfl) (fun _ _ _ _ _ h => h) (by rfl) hS0 (fun W hI => by clear hI; go_simp) ?_; (try simp only [Act.put, List.setIfInBounds_toArray, List.set_cons_zero, List.set_cons_succ])
                  obtain ⟨b14, hbb⟩ : ∃ b, b = wy20.heap.size := ⟨_, rfl⟩
                  obtain ⟨wy21, hnew⟩ : ∃ x, x = wy20.alloc (.cells #[.int .i64 0, .int .i64 0] 86) := ⟨_, rfl⟩
                  have hal : Sees wy20 wy21 := by rw [hnew]; exact (Sees.refl wy20).alloc _
                  have D14 := Lib.hid (show RvAt wy21 b14 0 0 by rw [hnew]; exact RvAt.new hbb)
                  have hzn : wy21.heap.size = wy20.heap.size + 1 := by rw [hnew]; simp
                  obtain ⟨Zn, hst, hz1, hz2⟩ := ST.out.alloc hal
                  have N14 := Lib.hid (NwB.new (lo := w10.heap.size) ST.out hz2 hbb hzn hlo)
                  have HNE : Hid (b15 ≠ b14) := Lib.hid (by have := N15.out.2.2.2.2.2.2; omega)
                  have N15 := Lib.hid (N15.out.alloc (W' := wy21) hz1 (by omega))
                  have D15 := Lib.hid (D15.out.sees hal)
                  have ST := Lib.hid hst
                  have HZ0 := Lib.hid (fun c h => hz1 c (HZ0.out c h))
                  have hk1 := hS0.trans (Keeps.of_sees (F := Chg w Z) hal)
                  have hlo : w10.heap.size ≤ wy21.heap.size := by omega
                  refine wpH_one (i := 13) (by kernel_rfl) (wpOp_val (v := .pointer (some ⟨b14, 0, none⟩)) (w' := wy21) (by rfl) (wanted_none (by rfl) _) (by rw [hnew, hbb]; go_simp) ⟨hk1, ?_⟩)
                  (try simp only [Act.put, List.setIfInBounds_toArray, List.set_cons_zero, List.set_cons_succ])
                  clear hS0 hal hzn hnew hbb hst hz1 hz2
                  have hS0 := hk1
                  clear hk1
                  obtain ⟨wy22, hnew⟩ : ∃ x, x = wy21.setRow b14 #[.int .i64 rows2, .int .i64 back2] := ⟨_, rfl⟩
                  have Hst := Lib.hid (show (Instr.storeAt 86 (.pointer (some ⟨b14, 0, none⟩)) (.agg #[.int .i64 rows2, .int .i64 back2])).run Tryd.prog wy21 = .ok () wy22 by rw [hnew]; exact run_storeAt_row (P := Tryd.prog) (W := wy21) 86 b14 _ 86 [.int .i64 rows2, .int .i64 back2] (fun _ => by kernel_rfl) D14.out rfl (by intro v hv; simp only [List.mem_cons, List.not_mem_nil, or_false] at hv; rcases hv with rfl | rfl <;> rfl))
                  have hks := (show Keeps (fun b => b = b14) wy21 wy22 by rw [hnew]; exact ⟨rfl, rfl, rfl, by simp [World.setRow], fun b hb hne => setRow_other wy21 _ b _ (fun e => hne e)⟩)
                  have D14 := Lib.hid (show RvAt wy22 b14 rows2 back2 by rw [hnew]; exact setRow_heap _ _ _ _ _ (0, 0) D14.out)
                  have D15 := Lib.hid (D15.out.keeps hks (fun e => by have e : b15 = b14 := e; have := HNE.out; omega))
                  have ST := Lib.hid (ST.out.store hks (fun c e => by have e : c = b14 := e; rw [e]; exact N14.out.st))
                  have hk1 := hS0.trans' hks (fun b hb e => by have e : b = b14 := e; have := N14.out.2.2.2.2.2.1; omega)
                  have hlo : w10.heap.size ≤ wy22.heap.size := Nat.le_trans hlo hks.size
                  have N14 := Lib.hid (N14.out.alloc (W' := wy22) (fun _ h => h) hks.size)
                  have N15 := Lib.hid (N15.out.alloc (W' := wy22) (fun _ h => h) hks.size)
                  refine wpH_one (i := 15) (by kernel_rfl) (wpOp_skip (w' := wy22) (by rfl) (wanted_none (by rfl) _) (exec_store (a := .pointer (some ⟨b14, 0, none⟩)) (v := .agg #[.int .i64 rows2, .int .i64 back2]) rfl (by go_simp) (by go_simp) Hst.out) ⟨hk1, ?_⟩)
                  (try simp only [Act.put, List.setIfInBounds_toArray, List.set_cons_zero, List.set_cons_succ])
                  clear hS0 hks Hst hnew
                  have hS0 := hk1
                  clear hk1
                  obtain ⟨wy23, hnew⟩ : ∃ x, x = wy22.setRow b15 #[.int .i64 m, .int .i64 f2, .slice a2 n2 c2] := ⟨_, rfl⟩
                  have Hst := Lib.hid (show (Instr.storeAt 60 (.pointer (some ⟨b15, 0, none⟩)) (.agg #[.int .i64 m, .int .i64 f2, .slice a2 n2 c2])).run Tryd.prog wy22 = .ok () wy23 by rw [hnew]; exact run_storeAt_row (P := Tryd.prog) (W := wy22) 60 b15 _ 60 [.int .i64 m, .int .i64 f2, .slice a2 n2 c2] (fun _ => by kernel_rfl) D15.out rfl (by intro v hv; simp only [List.mem_cons, List.not_mem_nil, or_false] at hv; rcases hv with rfl | rfl | rfl <;> rfl))
                  have hks := (show Keeps (fun b => b = b15) wy22 wy23 by rw [hnew]; exact ⟨rfl, rfl, rfl, by simp [World.setRow], fun b hb hne => setRow_other wy22 _ b _ (fun e => hne e)⟩)
                  have D15 := Lib.hid (show HrAt wy23 b15 m f2 (.slice a2 n2 c2) by rw [hnew]; exact setRow_heap _ _ _ _ _ (0, 0) D15.out)
                  have D14 := Lib.hid (D14.out.keeps hks (fun e => by have e : b14 = b15 := e; have := HNE.out; omega))
                  have ST := Lib.hid (ST.out.store hks (fun c e => by have e : c = b15 := e; rw [e]; exact N15.out.st))
                  have hk1 := hS0.trans' hks (fun b hb e => by have e : b = b15 := e; have := N15.out.2.2.2.2.2.1; omega)
                  have hlo : w10.heap.size ≤ wy23.heap.size := Nat.le_trans hlo hks.size
                  have N14 := Lib.hid (N14.out.alloc (W' := wy23) (fun _ h => h) hks.size)
                  have N15 := Lib.hid (N15.out.alloc (W' := wy23) (fun _ h => h) hks.size)
                  refine wpH_one (i := 16) (by kernel_rfl) (wpOp_skip (w' := wy23) (by rfl) (wanted_none (by rfl) _) (exec_store (a := .pointer (some ⟨b15, 0, none⟩)) (v := .agg #[.int .i64 m, .int .i64 f2, .slice a2 n2 c2]) rfl (by go_simp) (by go_simp) Hst.out) ⟨hk1, ?_⟩)
                  (try simp only [Act.put, List.setIfInBounds_toArray, List.set_cons_zero, List.set_cons_succ])
                  clear hS0 hks Hst hnew
                  have hS0 := hk1
                  clear hk1
                  refine wpH_take (i := 17) (v := .bool true) hB (by rfl) (by kernel_rfl) (fun _ _ _ _ _ h => h) (by rfl) hS0 (fun W hI => by clear hI; go_simp) ?_; (try simp only [Act.put, List.setIfInBounds_toArray, List.set_cons_zero, List.set_cons_succ])
                  refine wpH_end (by kernel_rfl) ?_
                  clear hB hS0
                  go_wp2_with fail
                  go_meet
                  exact ⟨rows2, back2, f2, L2, _, _, a2, c2, b14, b15, rfl, rfl, rfl, ST.out.1, by rw [← Hn2.out]; exact ST.out.2.1, ST.out.2.2.1, D14.out, by rw [← Hn2.out]; exact D15.out, ST.out.2.2.2.1, ST.out.2.2.2.2.1, ST.out.2.2.2.2.2, ⟨N14.out.2.2.2.1, N14.out.2.2.2.2.1, N15.out.2.2.2.1, N15.out.2.2.2.2.1⟩, hr20, by rw [← Hn2.out]; exact p7, by rw [← Hn2.out]; exact p8⟩
                · obtain ⟨b14, hbb⟩ : ∃ b, b = wy19.heap.size := ⟨_, rfl⟩
                  obtain ⟨wy24, hnew⟩ : ∃ x, x = wy19.alloc (.cells #[.int .i64 0, .int .i64 0] 86) := ⟨_, rfl⟩
                  have hal : Sees wy19 wy24 := by rw [hnew]; exact (Sees.refl wy19).alloc _
                  have D14 := Lib.hid (show RvAt wy24 b14 0 0 by rw [hnew]; exact RvAt.new hbb)
                  have hzn : wy24.heap.size = wy19.heap.size + 1 := by rw [hnew]; simp
                  obtain ⟨Zn, hst, hz1, hz2⟩ := ST.out.alloc hal
                  have N14 := Lib.hid (NwB.new (lo := w10.heap.size) ST.out hz2 hbb hzn hlo)
                  have HNE : Hid (b15 ≠ b14) := Lib.hid (by have := N15.out.2.2.2.2.2.2; omega)
                  have N15 := Lib.hid (N15.out.alloc (W' := wy24) hz1 (by omega))
                  have D15 := Lib.hid (D15.out.sees hal)
                  have ST := Lib.hid hst
                  have HZ0 := Lib.hid (fun c h => hz1 c (HZ0.out c h))
                  have hk1 := hS0.trans (Keeps.of_sees (F := Chg w Z) hal)
                  have hlo : w10.heap.size ≤ wy24.heap.size := by omega
                  refine wpOp_val (v := .pointer (some ⟨b14, 0, none⟩)) (w' := wy24) (by rfl) (wanted_none (by rfl) _) (by rw [hnew, hbb]; go_simp) ⟨hk1, ?_⟩
                  (try simp only [Act.put, List.setIfInBounds_toArray, List.set_cons_zero, List.set_cons_succ])
                  clear hS0 hal hzn hnew hbb hst hz1 hz2
                  have hS0 := hk1
                  clear hk1
                  refine wpH_one (i := 8) (by kernel_rfl) (wpOp_enter (fn := 54) (args := #[.pointer (some ⟨vb, 0, none⟩), .pointer (some ⟨hb, 0, none⟩), .agg #[.int .i64 rows, .int .i64 back], .agg #[.int .i64 m, .int .i64 f, .slice a n c], .agg #[.int .i64 what, .int .i64 num]]) (by rfl) (by rfl) (by go_simp) ((does32_any what hw0 hw5 Ht.out ST.out.1 ST.out.2.1 ST.out.2.2.1 Hn.out (by omega) hbn (by omega)).mono ?_))
                  rintro e wy25 ⟨rows2, back2, f3, L2, v2, Z2, rfl, p1, p2, p3, p4, p5, p6, p7, p8⟩
                  have fa2 := p1.facts
                  have hv2 := p1.vw.2.2.1
                  obtain ⟨f2, rfl⟩ : ∃ f2 : Nat, f3 = f2 := ⟨f3.toNat, by omega⟩
                  obtain ⟨a2, c2, rfl, _⟩ := p2.slice'
                  obtain ⟨n2, hn2⟩ : ∃ n2, n2 = L2.length := ⟨_, rfl⟩
                  rw [← hn2] at p2 p7 p8 ⊢
                  have Hn2 := Lib.hid hn2
                  have hr20 : rows2 ≤ 20 := by
                    rcases p6 with h | ⟨h, h2⟩
                    · omega
                    · have := Hnum.out h; omega
                  have hk1 := hS0.trans (p5.mono (fun c _ e => (⟨fun h => e.1 (HZ0.out c h), e.2⟩ : Chg w Z c)))
                  have hlo : w10.heap.size ≤ wy25.heap.size := Nat.le_trans hlo p5.size
                  have D14 := Lib.hid (D14.out.keeps p5 (fun e => e.1 N14.out.1))
                  have N14 := Lib.hid (N14.out.call p3 p5.size)
                  have D15 := Lib.hid (D15.out.keeps p5 (fun e => e.1 N15.out.1))
                  have N15 := Lib.hid (N15.out.call p3 p5.size)
                  have ST := Lib.hid (ST.out.call p1 p2 p3 p5)
                  have HZ0 := Lib.hid (fun c h => p3 c (HZ0.out c h))
                  refine ⟨_, rfl, hk1, ?_⟩
                  clear hS0 p1 p2 p3 p4 p5 p6 hn2 fa2
                  have hS0 := hk1
                  clear hk1
                  (try simp only [Act.put, List.setIfInBounds_toArray, List.set_cons_zero, List.set_cons_succ])
                  refine wpH_take (i := 9) (v := .tuple #[.agg #[.int .i64 rows2, .int .i64 back2], .agg #[.int .i64 m, .int .i64 f2, .slice a2 n2 c2], .bool true]) hB (by rfl) (by kernel_rfl) (fun _ _ _ _ _ h => h) (by rfl) hS0 (fun W hI => by clear hI; go_simp) ?_; (try simp only [Act.put, List.setIfInBounds_toArray, List.set_cons_zero, List.set_cons_succ])
                  refine wpH_take (i := 10) (v := .agg #[.int .i64 rows2, .int .i64 back2]) hB (by rfl) (by kernel_rfl) (fun _ _ _ _ _ h => h) (by rfl) hS0 (fun W hI => by clear hI; go_simp) ?_; (try simp only [Act.put, List.setIfInBounds_toArray, List.set_cons_zero, List.set_cons_succ])
                  refine wpH_take (i := 11) (v := .agg #[.int .i64 m, .int .i64 f2, .slice a2 n2 c2]) hB (by rfl) (by kernel_rfl) (fun _ _ _ _ _ h => h) (by rfl) hS0 (fun W hI => by clear hI; go_simp) ?_; (try simp only [Act.put, List.setIfInBounds_toArray, List.set_cons_zero, List.set_cons_succ])
                  refine wpH_take (i := 12) (v := .bool true) hB (by rfl) (by kernel_rfl) (fun _ _ _ _ _ h => h) (by rfl) hS0 (fun W hI => by clear hI; go_simp) ?_; (try simp only [Act.put, List.setIfInBounds_toArray, List.set_cons_zero, List.set_cons_succ])
                  obtain ⟨wy26, hnew⟩ : ∃ x, x = wy25.setRow b14 #[.int .i64 rows2, .int .i64 back2] := ⟨_, rfl⟩
                  have Hst := Lib.hid (show (Instr.storeAt 86 (.pointer (some ⟨b14, 0, none⟩)) (.agg #[.int .i64 rows2, .int .i64 back2])).run Tryd.prog wy25 = .ok () wy26 by rw [hnew]; exact run_storeAt_row (P := Tryd.prog) (W := wy25) 86 b14 _ 86 [.int .i64 rows2, .int .i64 back2] (fun _ => by kernel_rfl) D14.out rfl (by intro v hv; simp only [List.mem_cons, List.not_mem_nil, or_false] at hv; rcases hv with rfl | rfl <;> rfl))
                  have hks := (show Keeps (fun b => b = b14) wy25 wy26 by rw [hnew]; exact ⟨rfl, rfl, rfl, by simp [World.setRow], fun b hb hne => setRow_other wy25 _ b _ (fun e => hne e)⟩)
                  have D14 := Lib.hid (show RvAt wy26 b14 rows2 back2 by rw [hnew]; exact setRow_heap _ _ _ _ _ (0, 0) D14.out)
                  have D15 := Lib.hid (D15.out.keeps hks (fun e => by have e : b15 = b14 := e; have := HNE.out; omega))
                  have ST := Lib.hid (ST.out.store hks (fun c e => by have e : c = b14 := e; rw [e]; exact N14.out.st))
                  have hk1 := hS0.trans' hks (fun b hb e => by have e : b = b14 := e; have := N14.out.2.2.2.2.2.1; omega)
                  have hlo : w10.heap.size ≤ wy26.heap.size := Nat.le_trans hlo hks.size
                  have N14 := Lib.hid (N14.out.alloc (W' := wy26) (fun _ h => h) hks.size)
                  have N15 := Lib.hid (N15.out.alloc (W' := wy26) (fun _ h => h) hks.size)
                  refine wpH_one (i := 15) (by kernel_rfl) (wpOp_skip (w' := wy26) (by rfl) (wanted_none (by rfl) _) (exec_store (a := .pointer (some ⟨b14, 0, none⟩)) (v := .agg #[.int .i64 rows2, .int .i64 back2]) rfl (by go_simp) (by go_simp) Hst.out) ⟨hk1, ?_⟩)
                  (try simp only [Act.put, List.setIfInBounds_toArray, List.set_cons_zero, List.set_cons_succ])
                  clear hS0 hks Hst hnew
                  have hS0 := hk1
                  clear hk1
                  obtain ⟨wy27, hnew⟩ : ∃ x, x = wy26.setRow b15 #[.int .i64 m, .int .i64 f2, .slice a2 n2 c2] := ⟨_, rfl⟩
                  have Hst := Lib.hid (show (Instr.storeAt 60 (.pointer (some ⟨b15, 0, none⟩)) (.agg #[.int .i64 m, .int .i64 f2, .slice a2 n2 c2])).run Tryd.prog wy26 = .ok () wy27 by rw [hnew]; exact run_storeAt_row (P := Tryd.prog) (W := wy26) 60 b15 _ 60 [.int .i64 m, .int .i64 f2, .slice a2 n2 c2] (fun _ => by kernel_rfl) D15.out rfl (by intro v hv; simp only [List.mem_cons, List.not_mem_nil, or_false] at hv; rcases hv with rfl | rfl | rfl <;> rfl))
                  have hks := (show Keeps (fun b => b = b15) wy26 wy27 by rw [hnew]; exact ⟨rfl, rfl, rfl, by simp [World.setRow], fun b hb hne => setRow_other wy26 _ b _ (fun e => hne e)⟩)
                  have D15 := Lib.hid (show HrAt wy27 b15 m f2 (.slice a2 n2 c2) by rw [hnew]; exact setRow_heap _ _ _ _ _ (0, 0) D15.out)
                  have D14 := Lib.hid (D14.out.keeps hks (fun e => by have e : b14 = b15 := e; have := HNE.out; omega))
                  have ST := Lib.hid (ST.out.store hks (fun c e => by have e : c = b15 := e; rw [e]; exact N15.out.st))
                  have hk1 := hS0.trans' hks (fun b hb e => by have e : b = b15 := e; have := N15.out.2.2.2.2.2.1; omega)
                  have hlo : w10.heap.size ≤ wy27.heap.size := Nat.le_trans hlo hks.size
                  have N14 := Lib.hid (N14.out.alloc (W' := wy27) (fun _ h => h) hks.size)
                  have N15 := Lib.hid (N15.out.alloc (W' := wy27) (fun _ h => h) hks.size)
                  refine wpH_one (i := 16) (by kernel_rfl) (wpOp_skip (w' := wy27) (by rfl) (wanted_none (by rfl) _) (exec_store (a := .pointer (some ⟨b15, 0, none⟩)) (v := .agg #[.int .i64 m, .int .i64 f2, .slice a2 n2 c2]) rfl (by go_simp) (by go_simp) Hst.out) ⟨hk1, ?_⟩)
                  (try simp only [Act.put, List.setIfInBounds_toArray, List.set_cons_zero, List.set_cons_succ])
                  clear hS0 hks Hst hnew
                  have hS0 := hk1
                  clear hk1
                  refine wpH_take (i := 17) (v := .bool true) hB (by rfl) (by kernel_rfl) (fun _ _ _ _ _ h => h) (by rfl) hS0 (fun W hI => by clear hI; go_simp) ?_; (try simp only [Act.put, List.setIfInBounds_toArray, List.set_cons_zero, List.set_cons_succ])
                  refine wpH_end (by kernel_rfl) ?_
                  clear hB hS0
                  go_wp2_with fail
                  go_meet
                  exact ⟨rows2, back2, f2, L2, _, _, a2, c2, b14, b15, rfl, rfl, rfl, ST.out.1, by rw [← Hn2.out]; exact ST.out.2.1, ST.out.2.2.1, D14.out, by rw [← Hn2.out]; exact D15.out, ST.out.2.2.2.1, ST.out.2.2.2.2.1, ST.out.2.2.2.2.2, ⟨N14.out.2.2.2.1, N14.out.2.2.2.2.1, N15.out.2.2.2.1, N15.out.2.2.2.2.1⟩, hr20, by rw [← Hn2.out]; exact p7, by rw [← Hn2.out]; exact p8⟩
            case rest =>
              obtain ⟨rows2, back2, f2, L2, Z2, Zl2, a2, c2, b14, b15, rfl, rfl, rfl, m1, m2, m3, m4, m5, ⟨q1, g1, m6⟩, ⟨q2, g2, u2, m7⟩, m8, m9, m10, m11, m12⟩ := hcut
              obtain ⟨n2, hn2⟩ : ∃ n2, n2 = L2.length := ⟨_, rfl⟩
              rw [← hn2] at m2 m5 m11 m12
              have Hn2 := Lib.hid hn2
              have HM := Lib.hid (And.intro m3 (And.intro m8 m9))
              have P4 := Lib.hid m1
              have L4 := Lib.hid m2
              have D14 := Lib.hid m4
              have D15 := Lib.hid m5
              have B1 := Lib.hid m6
              have B2 := Lib.hid m7
              clear m1 m2 m3 m4 m5 m6 m7 m8 m9 hn2 HP HL HR1 HR2 HB HI0 HZ HZR
              go_wp2_with fail
              refine wpH_go (fun b => b = R1 ∨ b = R2) 4 (by kernel_rfl) (by kernel_rfl) (by rfl) (fun hB w10 hs10 => ?_)
              have P4 := Lib.hid (P4.out.sees hs10)
              have L4 := Lib.hid (L4.out.sees hs10)
              have D14 := Lib.hid (D14.out.sees hs10)
              have D15 := Lib.hid (D15.out.sees hs10)
              have B1 := Lib.hid (B1.out.sees hs10)
              have B2 := Lib.hid (B2.out.sees hs10)
              clear hs10
              have hS0 : Keeps (fun b => b = R1 ∨ b = R2) w10 w10 := Keeps.refl _ w10
              refine wpH_take (i := 0) (v := .agg #[.int .i64 rows2, .int .i64 back2]) hB (by rfl) (by kernel_rfl) (fun _ _ _ _ _ h => h) (by rfl) hS0 (fun W hI => by have q := (D14.out.keeps hI (fun e => by rcases e with e | e; exact HM.out.2.2.1 e; exact HM.out.2.2.2.1 e)).c; obtain ⟨q0, q1⟩ := q; clear hI; go_simp) ?_; (try simp only [Act.put, List.setIfInBounds_toArray, List.set_cons_zero, List.set_cons_succ])
              refine wpH_take (i := 1) (v := .agg #[.int .i64 m, .int .i64 f2, .slice a2 n2 c2]) hB (by rfl) (by kernel_rfl) (fun _ _ _ _ _ h => h) (by rfl) hS0 (fun W hI => by have q := (D15.out.keeps hI (fun e => by rcases e with e | e; exact HM.out.2.2.2.2.1 e; exact HM.out.2.2.2.2.2 e)).c; obtain ⟨q0, q1, q2⟩ := q; clear hI; go_simp) ?_; (try simp only [Act.put, List.setIfInBounds_toArray, List.set_cons_zero, List.set_cons_succ])
              obtain ⟨w8, hnew⟩ : ∃ x, x = w10.setRow R1 #[.int .i64 rows2, .int .i64 back2] := ⟨_, rfl⟩
              have Hst := Lib.hid (show (Instr.storeAt 86 (.pointer (some ⟨R1, 0, none⟩)) (.agg #[.int .i64 rows2, .int .i64 back2])).run Tryd.prog w10 = .ok () w8 by rw [hnew]; exact run_storeAt_row (P := Tryd.prog) (W := w10) 86 R1 _ 86 [.int .i64 rows2, .int .i64 back2] (fun _ => by kernel_rfl) B1.out rfl (by intro v hv; simp only [List.mem_cons, List.not_mem_nil, or_false] at hv; rcases hv with rfl | rfl <;> rfl))
              have hk8 := (show Keeps (fun b => b = R1) w10 w8 by rw [hnew]; exact ⟨rfl, rfl, rfl, by simp [World.setRow], fun b hb hne => setRow_other w10 _ b _ (fun e => hne e)⟩)
              have B1 := Lib.hid (show RvAt w8 R1 rows2 back2 by rw [hnew]; exact setRow_heap _ _ _ _ _ (0, 0) B1.out)
              have B2 := Lib.hid (B2.out.keeps hk8 (fun e => hR12 e))
              have hS8 := hS0.trans (hk8.mono (fun b _ e => (.inl e : b = R1 ∨ b = R2)))
              refine wpH_one (i := 2) (by kernel_rfl) (wpOp_skip (w' := w8) (by rfl) (wanted_none (by rfl) _) (exec_store (a := .pointer (some ⟨R1, 0, none⟩)) (v := .agg #[.int .i64 rows2, .int .i64 back2]) rfl (by go_simp) (by go_simp) Hst.out) ⟨hS8, ?_⟩)
              (try simp only [Act.put, List.setIfInBounds_toArray, List.set_cons_zero, List.set_cons_succ])
              clear Hst hnew
              obtain ⟨w9, hnew⟩ : ∃ x, x = w8.setRow R2 #[.int .i64 m, .int .i64 f2, .slice a2 n2 c2] := ⟨_, rfl⟩
              have Hst := Lib.hid (show (Instr.storeAt 60 (.pointer (some ⟨R2, 0, none⟩)) (.agg #[.int .i64 m, .int .i64 f2, .slice a2 n2 c2])).run Tryd.prog w8 = .ok () w9 by rw [hnew]; exact run_storeAt_row (P := Tryd.prog) (W := w8) 60 R2 _ 60 [.int .i64 m, .int .i64 f2, .slice a2 n2 c2] (fun _ => by kernel_rfl) B2.out rfl (by intro v hv; simp only [List.mem_cons, List.not_mem_nil, or_false] at hv; rcases hv with rfl | rfl | rfl <;> rfl))
              have hk9 := (show Keeps (fun b => b = R2) w8 w9 by rw [hnew]; exact ⟨rfl, rfl, rfl, by simp [World.setRow], fun b hb hne => setRow_other w8 _ b _ (fun e => hne e)⟩)
              have B2 := Lib.hid (show HrAt w9 R2 m f2 (.slice a2 n2 c2) by rw [hnew]; exact setRow_heap _ _ _ _ _ (0, 0) B2.out)
              have B1 := Lib.hid (B1.out.keeps hk9 (fun e => hR12 e.symm))
              have hS9 := hS8.trans (hk9.mono (fun b _ e => (.inr e : b = R1 ∨ b = R2)))
              refine wpH_one (i := 3) (by kernel_rfl) (wpOp_skip (w' := w9) (by rfl) (wanted_none (by rfl) _) (exec_store (a := .pointer (some ⟨R2, 0, none⟩)) (v := .agg #[.int .i64 m, .int .i64 f2, .slice a2 n2 c2]) rfl (by go_simp) (by go_simp) Hst.out) ⟨hS9, ?_⟩)
              (try simp only [Act.put, List.setIfInBounds_toArray, List.set_cons_zero, List.set_cons_succ])
              refine wpH_end (by kernel_rfl) ?_
              have hkk := (hk8.mono (G := fun b => b = R1 ∨ b = R2) (fun b _ e => .inl e)).trans (hk9.mono (fun b _ e => .inr e))
              have HI : Hid (PvI w w9 hb R1 R2 m (k + 1) (.pointer (some ⟨vb, 0, none⟩))) := Lib.hid ⟨vb, rows2, back2, f2, L2, Z2, Zl2, a2, c2, rfl, P4.out.keeps hkk (fun c e => by rcases e with e | e; exact ⟨e ▸ HM.out.2.1.1, by omega⟩; exact ⟨e ▸ HM.out.2.1.2.1, by omega⟩), B1.out, by rw [← Hn2.out]; exact B2.out, by rw [← Hn2.out]; exact L4.out.keeps hkk (fun c hc e => by rcases e with e | e; exact HM.out.2.1.2.2.1 (e ▸ hc); exact HM.out.2.1.2.2.2 (e ▸ hc)), HM.out.1, HM.out.2.1, m10, by rw [← Hn2.out]; exact m11, by rw [← Hn2.out]; omega⟩
              clear hB hS0 hS8 hS9 Hst hnew hk8 hk9 hkk P4 L4 D14 D15 B1 B2 HM Hn2 m10 m11 m12
              obtain ⟨vb2, rows2, back2, f2, L2, Z2, Zl2, a2, c2, ev2, p1, p2, p3, p4, p5, p6, p7, p8, p9⟩ := HI.out
              cases ev2
              obtain ⟨n2, hn2⟩ : ∃ n2, n2 = L2.length := ⟨_, rfl⟩
              rw [← hn2] at p3 p4 p8 p9
              have fa2 := p1.facts
              rw [← hn2] at fa2
              have hrv := p1.vw.2.1
              have P2 := Lib.hid p1
              have R1o := Lib.hid p2
              have R2o := Lib.hid p3
              have L2o := Lib.hid p4
              have HZ2 := Lib.hid p5
              have Hn2 := Lib.hid hn2
              have hsee := p1.see.size
              obtain ⟨s, hs⟩ : ∃ s, s = (ByteArray.mk #[109, 110, 111, 112, 113, 114, 115, 116, 117, 118, 119, 120, 121, 122, 109, 110, 111, 112, 113, 114, 115, 116, 117, 118, 119, 120, 121, 122]).extract 0 rows2 := ⟨_, rfl⟩
              have hr28 : rows2 ≤ (ByteArray.mk #[109, 110, 111, 112, 113, 114, 115, 116, 117, 118, 119, 120, 121, 122, 109, 110, 111, 112, 113, 114, 115, 116, 117, 118, 119, 120, 121, 122]).size := by show rows2 ≤ 28; omega
              have Hsl : Hid ((rowsOf s).length = rows2) := Lib.hid (by rw [hs]; exact rows32_size _ _ hr28)
              have Hss : Hid (s.size ≤ 1000) := Lib.hid (by rw [hs, extract_size _ _ hr28]; omega)
              have hX1 : ∀ W, (Instr.sliceAt 9 (.string ⟨#[109, 110, 111, 112, 113, 114, 115, 116, 117, 118, 119, 120, 121, 122, 109, 110, 111, 112, 113, 114, 115, 116, 117, 118, 119, 120, 121, 122]⟩) none (some (.int .i64 rows2)) none).run Tryd.prog W = .ok (.string s) W := by rw [hs]; exact cut_const64 _ rows2 hr28
              obtain ⟨x0, x1⟩ := R1o.out.c
              clear p1 p2 p3 p4 p5 p6 hs hr28 hn2
              go_wp2_with fail
              refine (list32_any s _ Hss.out).mono ?_
              rintro e W3 ⟨v3, rfl, ho, hs3⟩
              obtain ⟨sa, sc, rfl, _⟩ := ho.slice
              rw [Hsl.out] at ho ⊢
              have P3 := Lib.hid (P2.out.more hs3)
              have S3 : Hid (ViSt w W3 vb hb rows2 back2 m f2 L2 (.slice sa rows2 sc) (rowsOf s)) := Lib.hid (P3.out.st (ho.rd.mono (fun c hc h => .inr ⟨h, hc⟩)))
              have R1o := Lib.hid (R1o.out.sees hs3)
              have R2o := Lib.hid (R2o.out.sees hs3)
              have L2o := Lib.hid (L2o.out.sees hs3)
              have HI := Lib.hid (HI.out.sees hs3)
              have O3 := Lib.hid ho.rd
              clear ho hs3 P2 P3 x0 x1 hX1
              obtain ⟨x0, x1⟩ := R1o.out.c
              obtain ⟨b0, b1, b2⟩ := R2o.out.c
              obtain ⟨z2, hz2⟩ : ∃ z2 : Int, (f2 : Int) + (n2 : Int) - back2 = z2 := ⟨_, rfl⟩
              have Hz2 : Hid ((f2 : Int) + (L2.length : Int) - back2 = z2) := Lib.hid (by rw [← Hn2.out]; exact hz2)
              have Hk2 : Hid (clampV (back2 : Int) L2.length = back2) := Lib.hid (by rw [← Hn2.out]; unfold clampV; omega)
              clear hz2
              go_wp2_with fail
              refine (refLines32 (fun _ => True) rows2 back2 m f2 _ _ L2 (rowsOf s) W3 (by rw [← Hn2.out]; omega) hrv (by omega) Hsl.out (by rw [← Hn2.out]; omega) (by omega) (L2o.out.mono (fun _ _ _ => trivial)) (O3.out.mono (fun _ _ _ => trivial)) z2 Hz2.out).mono ?_
              rintro e W4 ⟨⟨v4, rfl, hx⟩, hs4⟩
              obtain ⟨want, hwant⟩ : ∃ want, want = (L2.drop (L2.length - back2) ++ rowsOf s).take rows2 := ⟨_, rfl⟩
              have hwl : want.length = rows2 := by rw [hwant, List.length_take, List.length_append, Hsl.out]; omega
              have Hwant := Lib.hid hwant
              rw [← hwant] at hx
              obtain ⟨xa, xc, rfl, _⟩ := hx.slice'
              rw [hwl] at hx ⊢
              have X6 := Lib.hid hx
              have S6 := Lib.hid (S3.out.sees hs4)
              have R1o := Lib.hid (R1o.out.sees hs4)
              have HI := Lib.hid (HI.out.sees hs4)
              have O6 := Lib.hid (O3.out.sees hs4)
              clear hx hs4 S3 R2o L2o O3 x0 x1 b0 b1 b2 hwant hwl
              obtain ⟨ya, yc, h9, _⟩ := cut_from O6.out 1 hrv
              have H9 := Lib.hid h9
              clear h9 O6
              go_wp2_with fail
              refine wpFrom_go (by kernel_rfl) (by kernel_rfl) (fun hB W6 hs6 => ?_)
              have S6 := Lib.hid (S6.out.sees hs6)
              have X6 := Lib.hid (X6.out.sees hs6)
              have R1o := Lib.hid (R1o.out.sees hs6)
              have HI := Lib.hid (HI.out.sees hs6)
              clear hs6
              have hval : ∀ x v, (Spec.is x).val v = x := fun _ _ => rfl
              have hval2 : ∀ V v, (Spec.so V).val v = v := fun _ _ => rfl
              have hst : segStay (Sees W6) [.is (.pointer (some ⟨vb, 0, none⟩)),
                    .is (.int .i64 back2),
                    .is (.pointer (some ⟨R1, 1, none⟩)),
                    .is (.int .i64 back2),
                    .is (.bool false),
                    .is (.bool false),
                    .is (.pointer (some ⟨vb, 0, none⟩)),
                    .is (.int .i64 rows2),
                    .is (.pointer (some ⟨R1, 0, none⟩)),
                    .is (.int .i64 rows2),
                    .is (.bool false),
                    .is (.bool false),
                    .is (.bool false),
                    .is (.pointer (some ⟨vb, 0, none⟩)),
                    .is (.pointer (some ⟨hb, 0, none⟩)),
                    .is (.slice sa rows2 sc),
                    .is (.slice xa rows2 xc),
                    .is (.int .i64 z2),
                    .is (.bool true),
                    .is (.bool false),
                    .is (.bool false),
                    .is (.bool false),
                    .is (.pointer (some ⟨vb, 0, none⟩)),
                    .is (.pointer (some ⟨hb, 0, none⟩)),
                    .is (.slice sa rows2 sc),
                    .is (.slice ya (rows2 - 1) yc),
                    .is (.bool true),
                    .is (.bool false),
                    .is (.bool false)] :=
                  trivial
              refine wpFrom_any 29 _ hB (by kernel_rfl) rfl hst (by simp only [List.cons_append, List.nil_append, List.drop_succ_cons, List.drop_zero, List.take_succ_cons, List.take_zero, Nat.reduceSub]; rfl) ?_
              refine ⟨fun vs W hI hV => .inl ⟨by clear hI hV hst; go_simp, .inl (by clear hI hV hst; (try simp only [Act.put, hval, hval2, List.setIfInBounds_toArray, List.set_cons_zero, List.set_cons_succ]); go_simp)⟩, ?_⟩
              refine ⟨fun vs W hI hV => .inl ⟨by clear hI hV hst; (try simp only [Act.put, hval, hval2, List.setIfInBounds_toArray, List.set_cons_zero, List.set_cons_succ]); go_simp, .inr (.inr ⟨42, #[.pointer (some ⟨vb, 0, none⟩)], by clear hI hV hst; (try simp only [Act.put, hval, hval2, List.setIfInBounds_toArray, List.set_cons_zero, List.set_cons_succ]); go_simp, (S6.out.sees hI).back_is⟩)⟩, ?_⟩
              refine ⟨fun vs W hI hV => .inl ⟨by clear hI hV hst; go_simp, .inl (by clear hI hV hst; (try simp only [Act.put, hval, hval2, List.setIfInBounds_toArray, List.set_cons_zero, List.set_cons_succ]); go_simp)⟩, ?_⟩
              refine ⟨fun vs W hI hV => .inl ⟨by clear hI hV hst; go_simp, .inl (by have q := (R1o.out.sees hI).c; obtain ⟨q0, q1⟩ := q; clear hI hV hst; (try simp only [Act.put, hval, hval2, List.setIfInBounds_toArray, List.set_cons_zero, List.set_cons_succ]); go_simp)⟩, ?_⟩
              refine ⟨fun vs W hI hV => .inl ⟨by clear hI hV hst; go_simp, .inl (by clear hI hV hst; (try simp only [Act.put, hval, hval2, List.setIfInBounds_toArray, List.set_cons_zero, List.set_cons_succ]); go_simp)⟩, ?_⟩
              refine ⟨fun vs W hI hV => .inl ⟨by clear hI hV hst; go_simp, .inl (by clear hI hV hst; (try simp only [Act.put, hval, hval2, List.setIfInBounds_toArray, List.set_cons_zero, List.set_cons_succ]); go_simp)⟩, ?_⟩
              refine ⟨fun vs W hI hV => .inl ⟨by clear hI hV hst; go_simp, .inl (by clear hI hV hst; (try simp only [Act.put, hval, hval2, List.setIfInBounds_toArray, List.set_cons_zero, List.set_cons_succ]); go_simp)⟩, ?_⟩
              refine ⟨fun vs W hI hV => .inl ⟨by clear hI hV hst; (try simp only [Act.put, hval, hval2, List.setIfInBounds_toArray, List.set_cons_zero, List.set_cons_succ]); go_simp, .inr (.inr ⟨41, #[.pointer (some ⟨vb, 0, none⟩)], by clear hI hV hst; (try simp only [Act.put, hval, hval2, List.setIfInBounds_toArray, List.set_cons_zero, List.set_cons_succ]); go_simp, (S6.out.sees hI).rows_is⟩)⟩, ?_⟩
              refine ⟨fun vs W hI hV => .inl ⟨by clear hI hV hst; go_simp, .inl (by clear hI hV hst; (try simp only [Act.put, hval, hval2, List.setIfInBounds_toArray, List.set_cons_zero, List.set_cons_succ]); go_simp)⟩, ?_⟩
              refine ⟨fun vs W hI hV => .inl ⟨by clear hI hV hst; go_simp, .inl (by have q := (R1o.out.sees hI).c; obtain ⟨q0, q1⟩ := q; clear hI hV hst; (try simp only [Act.put, hval, hval2, List.setIfInBounds_toArray, List.set_cons_zero, List.set_cons_succ]); go_simp)⟩, ?_⟩
              refine ⟨fun vs W hI hV => .inl ⟨by clear hI hV hst; go_simp, .inl (by clear hI hV hst; (try simp only [Act.put, hval, hval2, List.setIfInBounds_toArray, List.set_cons_zero, List.set_cons_succ]); go_simp)⟩, ?_⟩
              refine ⟨fun vs W hI hV => .inl ⟨by clear hI hV hst; go_simp, .inl (by clear hI hV hst; (try simp only [Act.put, hval, hval2, List.setIfInBounds_toArray, List.set_cons_zero, List.set_cons_succ]); go_simp)⟩, ?_⟩
              refine ⟨fun vs W hI hV => .inl ⟨by clear hI hV hst; go_simp, .inl (by clear hI hV hst; (try simp only [Act.put, hval, hval2, List.setIfInBounds_toArray, List.set_cons_zero, List.set_cons_succ]); go_simp)⟩, ?_⟩
              refine ⟨fun vs W hI hV => .inl ⟨by clear hI hV hst; go_simp, .inl (by clear hI hV hst; (try simp only [Act.put, hval, hval2, List.setIfInBounds_toArray, List.set_cons_zero, List.set_cons_succ]); go_simp)⟩, ?_⟩
              refine ⟨fun vs W hI hV => .inl ⟨by clear hI hV hst; go_simp, .inl (by clear hI hV hst; (try simp only [Act.put, hval, hval2, List.setIfInBounds_toArray, List.set_cons_zero, List.set_cons_succ]); go_simp)⟩, ?_⟩
              refine ⟨fun vs W hI hV => .inl ⟨by clear hI hV hst; go_simp, .inl (by clear hI hV hst; (try simp only [Act.put, hval, hval2, List.setIfInBounds_toArray, List.set_cons_zero, List.set_cons_succ]); go_simp)⟩, ?_⟩
              refine ⟨fun vs W hI hV => .inl ⟨by clear hI hV hst; go_simp, .inl (by clear hI hV hst; (try simp only [Act.put, hval, hval2, List.setIfInBounds_toArray, List.set_cons_zero, List.set_cons_succ]); go_simp)⟩, ?_⟩
              refine ⟨fun vs W hI hV => .inl ⟨by clear hI hV hst; go_simp, .inl (by clear hI hV hst; (try simp only [Act.put, hval, hval2, List.setIfInBounds_toArray, List.set_cons_zero, List.set_cons_succ]); go_simp)⟩, ?_⟩
              refine ⟨fun vs W hI hV => .inl ⟨by clear hI hV hst; (try simp only [Act.put, hval, hval2, List.setIfInBounds_toArray, List.set_cons_zero, List.set_cons_succ]); go_simp, .inr (.inr ⟨43, #[.pointer (some ⟨vb, 0, none⟩), .pointer (some ⟨hb, 0, none⟩), .slice sa rows2 sc, .slice xa rows2 xc, .int .i64 z2, .int .i64 0], by clear hI hV hst; (try simp only [Act.put, hval, hval2, List.setIfInBounds_toArray, List.set_cons_zero, List.set_cons_succ]); go_simp, (S6.out.sees hI).seen back2 Hk2.out Hsl.out (rows32_cells _) z2 Hz2.out _ _ _ (X6.out.sees hI).rdl Hwant.out.symm⟩)⟩, ?_⟩
              refine ⟨fun vs W hI hV => .inl ⟨by clear hI hV hst; go_simp, .inl (by clear hI hV hst; (try simp only [Act.put, hval, hval2, List.setIfInBounds_toArray, List.set_cons_zero, List.set_cons_succ]); go_simp)⟩, ?_⟩
              refine ⟨fun vs W hI hV => .inl ⟨by clear hI hV hst; go_simp, .inl (by clear hI hV hst; (try simp only [Act.put, hval, hval2, List.setIfInBounds_toArray, List.set_cons_zero, List.set_cons_succ]); go_simp)⟩, ?_⟩
              refine ⟨fun vs W hI hV => .inl ⟨by clear hI hV hst; go_simp, .inl (by clear hI hV hst; (try simp only [Act.put, hval, hval2, List.setIfInBounds_toArray, List.set_cons_zero, List.set_cons_succ]); go_simp)⟩, ?_⟩
              refine ⟨fun vs W hI hV => .inl ⟨by clear hI hV hst; go_simp, .inl (by clear hI hV hst; (try simp only [Act.put, hval, hval2, List.setIfInBounds_toArray, List.set_cons_zero, List.set_cons_succ]); go_simp)⟩, ?_⟩
              refine ⟨fun vs W hI hV => .inl ⟨by clear hI hV hst; go_simp, .inl (by clear hI hV hst; (try simp only [Act.put, hval, hval2, List.setIfInBounds_toArray, List.set_cons_zero, List.set_cons_succ]); go_simp)⟩, ?_⟩
              refine ⟨fun vs W hI hV => .inl ⟨by clear hI hV hst; go_simp, .inl (by clear hI hV hst; (try simp only [Act.put, hval, hval2, List.setIfInBounds_toArray, List.set_cons_zero, List.set_cons_succ]); go_simp)⟩, ?_⟩
              refine ⟨fun vs W hI hV => .inl ⟨by clear hI hV hst; go_simp, .inl (by clear hI hV hst; exact exec_fromL (a := .slice sa rows2 sc) (b := .int .i64 1) rfl (by (try simp only [Act.put, hval, hval2, List.setIfInBounds_toArray, List.set_cons_zero, List.set_cons_succ]); go_simp) (by (try simp only [Act.put, hval, hval2, List.setIfInBounds_toArray, List.set_cons_zero, List.set_cons_succ]); go_simp) (H9.out W))⟩, ?_⟩
              refine ⟨fun vs W hI hV => .inl ⟨by clear hI hV hst; (try simp only [Act.put, hval, hval2, List.setIfInBounds_toArray, List.set_cons_zero, List.set_cons_succ]); go_simp, .inr (.inr ⟨43, #[.pointer (some ⟨vb, 0, none⟩), .pointer (some ⟨hb, 0, none⟩), .slice ya (rows2 - 1) yc, .slice none 0 0, .int .i64 0, .int .i64 2], by clear hI hV hst; (try simp only [Act.put, hval, hval2, List.setIfInBounds_toArray, List.set_cons_zero, List.set_cons_succ]); go_simp, (S6.out.sees hI).seen_arg _ _ _ (by omega)⟩)⟩, ?_⟩
              refine ⟨fun vs W hI hV => .inl ⟨by clear hI hV hst; go_simp, .inl (by clear hI hV hst; (try simp only [Act.put, hval, hval2, List.setIfInBounds_toArray, List.set_cons_zero, List.set_cons_succ]); go_simp)⟩, ?_⟩
              refine ⟨fun vs W hI hV => .inl ⟨by clear hI hV hst; go_simp, .inl (by clear hI hV hst; (try simp only [Act.put, hval, hval2, List.setIfInBounds_toArray, List.set_cons_zero, List.set_cons_succ]); go_simp)⟩, ?_⟩
              intro vs W7 hI hV
              have HI := Lib.hid (HI.out.sees hI)
              clear hI hV hst S6 X6 R1o
              (try simp only [Act.put, hval, hval2, List.setIfInBounds_toArray, List.set_cons_zero, List.set_cons_succ])
              go_simp
              refine wpFrom_end rfl ?_
              clear hB
              go_wp2_with fail
              go_roundw
              case rel => exact ⟨k + 1, by omega, by go_num, HI.out⟩
              case measure => simp [intOf] <;> omega
    · obtain rfl : k = t := by omega
      go_wp2_with fail
      refine (known32 _ (Ht.out.sees HI0.out.see)).mono ?_
      rintro e w5 ⟨rfl, hs5⟩
      go_wp2
      go_ret
      exact ⟨by simp, HI0.out.see.trans hs5⟩
theorem viewPlays_any (r m : Nat) (v : Value) (acts : List Act32) (w : World) (ht : Tabs w) (ha : act32El.Rd (fun b => b < w.heap.size) w v acts) :
    Calls Tryd.prog 13 #[.int .u8 r, .int .u8 m, v] w fun e w' => e = .returned (.bool true) ∧ Sees w w' := by
  by_cases h1 : 1 ≤ r
  · by_cases h2 : r ≤ 12
    · by_cases h3 : m ≤ 20
      · by_cases h4 : acts.length ≤ 40
        · exact viewPlays_in r m v acts w ht ha h1 h2 h3 h4
        · exact viewPlays_o4 r m v acts w ht ha h1 h2 h3 (by omega)
      · exact viewPlays_o3 r m v acts w ht ha h1 h2 (by omega)
    · exact viewPlays_o2 r m v acts w ht ha h1 (by omega)
  · exact viewPlays_o1 r m v acts w ht ha (by omega)
end Go.Proofs.YtpicffaghoggdaaDoor

namespace Go.Proofs.YtpicffaghoggdaaDoor
set_option linter.unusedVariables false
set_option linter.unusedSimpArgs false
open Go.ChangeShapes Go.WideShapes Go.RowKit

section
variable {H : Type} {enc : TypeId × Value → H} {w : World} {base : Nat} {spare : Nat → Bool} {held : Bool}
instance : Inhabited Act32 := ⟨⟨0, 0⟩⟩
theorem act32_words {fuel : Nat} {cs : List Value} {x : DataW H × List MemPlace} (h : DataW.trod enc Tryd.prog w base spare held fuel 88 cs = some x) : ∃ d, act32El.rel (fun b => b < w.heap.size) w cs d ∧ True := by
  have hft : flatT Tryd.prog 8 88 = some [3, 3] := by kernel_rfl
  obtain ⟨hl, hg⟩ := leaves 8 _ _ hft fuel _ _ h
  obtain ⟨r, e0, w0⟩ := leaf_int (hg 0 _ rfl) Tryd.underlying3
  obtain ⟨c, e1, w1⟩ := leaf_int (hg 1 _ rfl) Tryd.underlying3
  match cs, hl with
  | [a, b], _ =>
    simp only [List.getElem?_cons_zero, List.getElem?_cons_succ, Option.some.injEq] at e0 e1
    subst e0 e1
    exact ⟨⟨r, c⟩, rfl, trivial⟩
set_option maxRecDepth 100000 in
theorem open_acts32 {r : Reach} {b0 : Nat} {v : Value} {d : DataW H} {ps : List MemPlace} (hv : Value.okWide Tryd.prog w r b0 84 v) (h : DataW.Trod enc Tryd.prog w base spare held 84 v d ps) :
    ∃ ls, act32El.Rd (fun b => b < w.heap.size) w v ls ∧ ∀ p ∈ ls, True := by
  obtain ⟨a, len, cap, rfl⟩ := okWide_slice Tryd.underlying84 hv
  obtain ⟨fuel, h⟩ := h
  exact open_el_all act32El (fun _ => True) _ Tryd.underlying84 (by kernel_rfl) (fun fuel cs x h => act32_words h) h
end
end Go.Proofs.YtpicffaghoggdaaDoor
