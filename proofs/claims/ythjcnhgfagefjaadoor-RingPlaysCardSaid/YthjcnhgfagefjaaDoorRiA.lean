/- Rings of lines: what a ring is in memory, and the methods that only look at it. A ring's getters; what nil and zero rings answer. A ring's lines by their numbers: at, Get, Set. Pages as data: what is taken away at the front, their shape. Pages as data: a line more, a line less at the end; a ring as it is seen. No condition. -/
import Derived.Test.YthjcnhgfagefjaaDoorPgF
import Derived.Test.YthjcnhgfagefjaaDoorElF
import Derived.IntWalk
namespace Go.Proofs.YthjcnhgfagefjaaDoor
set_option linter.unusedVariables false
set_option linter.unusedSimpArgs false
open Go.RowKit

namespace El
variable {α : Type} {E : El α} {F G : Nat → Prop} {w W : World} {v : Value} {vs : List Value} {xs : List α}
/-- One datum of a slice of the call's own is turned; it may reach new memory then. -/
theorem Own.grow (h : E.Own F w v xs) {i : Nat} {x : α} (hx : xs[i]? = some x) : ∃ (b cap : Nat) (Fx : Nat → Prop) (vs : List Value), v = .slice (some ⟨b, 0, none⟩) xs.length cap ∧ xs.length ≤ cap ∧ F b ∧ b < w.heap.size ∧ (∀ c, Fx c → F c ∧ c ≠ b ∧ c < w.heap.size) ∧ E.own Fx w vs x ∧ vs.length = E.n ∧
    (∀ (j : Nat) u, vs[j]? = some u → w.cell? ⟨b, i * E.n + j, none⟩ = some u) ∧
    ∀ (W' : World) (x' : α), Keeps Fx w W' → E.own (fun c => Fx c ∨ w.heap.size ≤ c) W' vs x' → E.Own (fun c => F c ∨ w.heap.size ≤ c) W' v (xs.set i x') := by
  obtain ⟨b, cap, cur, Fx, Fr, vs, hv, hc, hFb, hFx, hFr, hg, hown, hvl, hvc, hback⟩ := h.cut.focus hx
  refine ⟨b, cap, Fx, vs, hv, hc, hFb.1, hFb.2, fun c hc => ⟨(hFx c hc).1.1, (hFx c hc).2, (hFx c hc).1.2⟩, hown, hvl, fun j u hu => by rw [cell_of_row _ _ _ _ _ _ hg]; exact hvc j u hu, fun W' x' hk ho => ?_⟩
  refine (hback Fx W' cur (fun c => Fx c ∨ w.heap.size ≤ c) vs x' ?_ (turned_same hvc) hk (fun c hc => (hFr c hc).2.2) ho (fun c hc => ?_)).mono ?_
  · rw [hk.block _ (Array.getElem?_eq_some_iff.1 hg).1 (fun hz => (hFx b hz).2 rfl)]; exact hg
  · rcases hc with hc | hc
    · exact ⟨(hFx c hc).2, fun h => (hFr c h).2.2 hc⟩
    · exact ⟨fun e => by have := hFb.2; omega, fun h => by have := (hFr c h).1.2; omega⟩
  · rintro c _ (h | h | h | h)
    · subst h; exact .inl hFb.1
    · exact .inl (hFr c h).1.1
    · exact .inl (hFx c h).1.1
    · exact .inr h
/-- What is behind the first datum. -/
theorem Own.tail {b n c : Nat} {x : α} (h : E.Own F w (.slice (some ⟨b, 0, none⟩) n c) (x :: xs)) : ∃ (Fn : Nat → Prop) (news : List Value), E.ownIn Fn w news xs ∧ (∀ c, Fn c → F c ∧ c ≠ b ∧ c < w.heap.size) ∧ ∀ (j : Nat) u, news[j]? = some u → w.cell? ((⟨b, E.n, none⟩ : Addr).add j) = some u := by
  obtain ⟨vals, ⟨hl, hrow⟩, hF, hin⟩ := h
  rcases hrow with ⟨h, _⟩ | ⟨b', cap, cur, hv, _, hg, hc1, hc2, hsz, htk⟩
  · cases h
  cases hv
  obtain ⟨F1, F2, h1, h2, h3, h4, h5⟩ := hin
  refine ⟨fun c => F2 c ∧ c < w.heap.size, vals.drop E.n, ownIn_mono h5 (fun b hb h => ⟨h, hb⟩), fun c hc => ⟨(h2 c hc.1).1, fun e => (h2 c hc.1).2 (by rw [e]; rfl), hc.2⟩, fun j u hu => ?_⟩
  rw [addr_add, cell_of_row _ _ _ _ _ _ hg]
  rw [List.getElem?_drop] at hu
  have hj := (List.getElem?_eq_some_iff.1 hu).1
  rw [← htk, List.getElem?_take, if_pos (by omega)] at hu
  rw [← hu]; simp
end El

/-- A page as data. -/
structure Pg where
  most : Int
  gone : Int
  ls : List Ln
def pgEl : El Pg where
  ty := 88
  n := 1
  n0 := Nat.one_pos
  rel F w vs x := ∃ p, vs = [.pointer (some ⟨p, 0, none⟩)] ∧ Page F w p x.most x.gone x.ls
  own F w vs x := ∃ p, vs = [.pointer (some ⟨p, 0, none⟩)] ∧ Page F w p x.most x.gone x.ls
  len := by rintro F w vs x ⟨p, rfl, _⟩; rfl
  one := by rintro F w vs x ⟨p, rfl, _⟩ v hv; simp at hv; subst hv; rfl
  keeps := by rintro F G w W vs x ⟨p, rfl, h⟩ hk hd; exact ⟨p, rfl, h.keeps hk hd⟩
  mono := by rintro F G w vs x ⟨p, rfl, h⟩ hd; exact ⟨p, rfl, h.mono hd⟩
  own_rel h := h
  own_keeps := by rintro F G w W vs x ⟨p, rfl, h⟩ hk hd; exact ⟨p, rfl, h.keeps hk hd⟩
  own_mono := by rintro F G w vs x ⟨p, rfl, h⟩ hd; exact ⟨p, rfl, h.mono hd⟩
theorem typedPg : El.Typed Tryd.prog pgEl 55 := El.typed_of (z := .pointer none) (bytes := 8) Tryd.underlying55 (by kernel_rfl) rfl (by decide)

/-- A page that may be there. -/
structure PgOk (page : Int) (p : Pg) : Prop where
  most : p.most = page
  gone0 : 0 ≤ p.gone
  room : p.gone + p.ls.length ≤ page
  ok : ∀ l ∈ p.ls, lnOk l.cells = true
/-- A ring as data. -/
structure RD where
  most : Int
  page : Int
  first : Int
  next : Int
  ps : List Pg
def linesP (ps : List Pg) : List Ln := ps.flatMap (·.ls)
/-- A ring that may be there. -/
structure RD.Ok (d : RD) : Prop where
  most0 : 0 ≤ d.most
  most1 : d.most ≤ 1048576
  page0 : 1 ≤ d.page
  page1 : d.page ≤ 1024
  first0 : 0 ≤ d.first
  next1 : d.next ≤ 1000000000
  tot : d.first + (linesP d.ps).length = d.next
  few : (linesP d.ps).length ≤ 1048577
  pgs : ∀ p ∈ d.ps, PgOk d.page p ∧ p.ls ≠ []
theorem linesP_cons (p : Pg) (ps : List Pg) : linesP (p :: ps) = p.ls ++ linesP ps := rfl
theorem linesP_append (ps qs : List Pg) : linesP (ps ++ qs) = linesP ps ++ linesP qs := by simp [linesP]
theorem ps_le : ∀ {ps : List Pg}, (∀ p ∈ ps, p.ls ≠ []) → ps.length ≤ (linesP ps).length
  | [], _ => Nat.le_refl _
  | p :: ps, h => by
    have h1 := ps_le (ps := ps) (fun q hq => h q (List.mem_cons_of_mem _ hq))
    have h2 : 0 < p.ls.length := List.length_pos_iff.2 (h p (List.mem_cons_self ..))
    rw [linesP_cons, List.length_append, List.length_cons]; omega

/-- A ring's words. -/
def RiAt (W : World) (r : Nat) (most page first next : Int) (v : Value) : Prop := W.heap[r]? = some (.cells #[.int .i64 most, .int .i64 page, .int .i64 first, .int .i64 next, v] 57 (0, 0))
namespace RiAt
variable {W W' : World} {r : Nat} {most page first next : Int} {v : Value}
theorem lt (h : RiAt W r most page first next v) : r < W.heap.size := (Array.getElem?_eq_some_iff.1 h).1
theorem keeps {F : Nat → Prop} (h : RiAt W r most page first next v) (hk : Keeps F W W') (hF : ¬ F r) : RiAt W' r most page first next v := by
  unfold RiAt at *; rw [hk.block _ (Array.getElem?_eq_some_iff.1 h).1 hF]; exact h
theorem sees (h : RiAt W r most page first next v) (hs : Sees W W') : RiAt W' r most page first next v := h.keeps (Keeps.of_sees (F := fun _ => False) hs) (fun h => h)
theorem new {n : Nat} (hn : n = W.heap.size) : RiAt (W.alloc (.cells #[.int .i64 most, .int .i64 page, .int .i64 first, .int .i64 next, v] 57)) n most page first next v := by subst hn; exact heap_alloc_new W _
theorem alloc (h : RiAt W r most page first next v) (o : Obj) : RiAt (W.alloc o) r most page first next v := h.sees ((Sees.refl W).alloc o)
theorem c (h : RiAt W r most page first next v) : W.cell? ⟨r, 0, none⟩ = some (.int .i64 most) ∧ W.cell? ⟨r, 1, none⟩ = some (.int .i64 page) ∧ W.cell? ⟨r, 2, none⟩ = some (.int .i64 first) ∧ W.cell? ⟨r, 3, none⟩ = some (.int .i64 next) ∧ W.cell? ⟨r, 4, none⟩ = some v := by
  rw [cell_of_row _ _ _ _ _ _ h, cell_of_row _ _ _ _ _ _ h, cell_of_row _ _ _ _ _ _ h, cell_of_row _ _ _ _ _ _ h, cell_of_row _ _ _ _ _ _ h]; exact ⟨rfl, rfl, rfl, rfl, rfl⟩
theorem fr (h : RiAt W r most page first next v) : ∀ i, W.frozen? ⟨r, i, none⟩ = false := fun i => frozen_of_row W r i _ _ h
theorem set2 (h : RiAt W r most page first next v) (x : Int) : RiAt (W.setCell ⟨r, 2, none⟩ (.int .i64 x)) r most page x next v := by
  have := heap_setCell_same W r 2 _ _ (.int .i64 x) h
  exact this
theorem set3 (h : RiAt W r most page first next v) (x : Int) : RiAt (W.setCell ⟨r, 3, none⟩ (.int .i64 x)) r most page first x v := heap_setCell_same W r 3 _ _ (.int .i64 x) h
theorem set0 (h : RiAt W r most page first next v) (x : Int) : RiAt (W.setCell ⟨r, 0, none⟩ (.int .i64 x)) r x page first next v := heap_setCell_same W r 0 _ _ (.int .i64 x) h
theorem set4 (h : RiAt W r most page first next v) (x : Value) : RiAt (W.setCell ⟨r, 4, none⟩ x) r most page first next x := heap_setCell_same W r 4 _ _ x h
end RiAt

/-- A ring in memory of its own, all of it newer than 'w1'. -/
structure RiM (w1 : World) (F : Nat → Prop) (W : World) (r : Nat) (d : RD) : Prop where
  see : Sees w1 W
  fr : F r
  low : ∀ b, F b → w1.heap.size ≤ b
  mem : ∃ v, RiAt W r d.most d.page d.first d.next v ∧ pgEl.Own (fun b => F b ∧ b ≠ r) W v d.ps
namespace RiM
variable {w1 W W' : World} {F G X : Nat → Prop} {r : Nat} {d : RD}
theorem sees (h : RiM w1 F W r d) (hs : Sees W W') : RiM w1 F W' r d := by
  obtain ⟨v, h1, h2⟩ := h.mem
  exact ⟨h.see.trans hs, h.fr, h.low, v, h1.sees hs, h2.sees hs⟩
theorem mono (h : RiM w1 F W r d) (hF : ∀ b, b < W.heap.size → F b → G b) (hl : ∀ b, G b → w1.heap.size ≤ b) : RiM w1 G W r d := by
  obtain ⟨v, h1, h2⟩ := h.mem
  exact ⟨h.see, hF r h1.lt h.fr, hl, v, h1, h2.mono (fun b hb h => ⟨hF b hb h.1, h.2⟩)⟩
theorem lt (h : RiM w1 F W r d) : r < W.heap.size := by obtain ⟨v, h1, h2⟩ := h.mem; exact h1.lt
theorem cut (h : RiM w1 F W r d) : RiM w1 (fun b => F b ∧ b < W.heap.size) W r d := h.mono (fun b hb h => ⟨h, hb⟩) (fun b hb => h.low b hb.1)
theorem keep (h : RiM w1 F W r d) (hk : Keeps F W W') : Sees w1 W' :=
  ((Keeps.of_sees (F := F) h.see).trans hk).sees_end (fun b hb hF => by have := h.low b hF; omega)
theorem keeps (h : RiM w1 F W r d) (hk : Keeps X W W') (hd : ∀ b, F b → ¬ X b) (hx : ∀ b, X b → w1.heap.size ≤ b) : RiM w1 F W' r d := by
  obtain ⟨v, h1, h2⟩ := h.mem
  exact ⟨((Keeps.of_sees (F := fun _ => False) h.see).trans' hk (fun b hb e => by have := hx b e; omega)).sees_end (fun _ _ h => h), h.fr, h.low, v, h1.keeps hk (hd r h.fr), h2.keeps hk (fun b hb => hd b hb.1)⟩
theorem words (h : RiM w1 F W r d) : ∃ a c, RiAt W r d.most d.page d.first d.next (.slice a d.ps.length c) ∧ d.ps.length ≤ c := by
  obtain ⟨v, h1, h2⟩ := h.mem
  obtain ⟨a, c, rfl, hc⟩ := h2.slice
  exact ⟨a, c, h1, hc⟩
/-- One page, and the ring behind a change of it. -/
theorem page (h : RiM w1 F W r d) {i : Nat} {x : Pg} (hi : d.ps[i]? = some x) (hx : PgOk d.page x) (hp : 1 ≤ d.page ∧ d.page ≤ 1024) :
    ∃ (b cap p : Nat) (Fx : Nat → Prop), RiAt W r d.most d.page d.first d.next (.slice (some ⟨b, 0, none⟩) d.ps.length cap) ∧ d.ps.length ≤ cap ∧ W.cell? ⟨b, i, none⟩ = some (.pointer (some ⟨p, 0, none⟩)) ∧ PgF w1 Fx W p d.page x.gone x.ls ∧ (∀ c, Fx c → F c ∧ c ≠ r ∧ c ≠ b ∧ c < W.heap.size) ∧ (F b ∧ b ≠ r ∧ b < W.heap.size) ∧
      ∀ (W' : World) (x' : Pg), Keeps Fx W W' → Page (fun c => Fx c ∨ W.heap.size ≤ c) W' p x'.most x'.gone x'.ls → RiM w1 (fun c => F c ∨ W.heap.size ≤ c) W' r { d with ps := d.ps.set i x' } := by
  obtain ⟨v, h1, h2⟩ := h.mem
  obtain ⟨b, cap, Fx, vs, rfl, hc, hFb, hbl, hFx, ⟨p, rfl, hpg⟩, -, hcell, hback⟩ := h2.grow hi
  have hx1 := hx.most
  have hc0 := hcell 0 _ rfl
  rw [show pgEl.n = 1 from rfl, Nat.mul_one, Nat.add_zero] at hc0
  refine ⟨b, cap, p, Fx, h1, hc, hc0, ⟨h.see, hx1 ▸ hpg, fun c hc => h.low c (hFx c hc).1.1, by omega, by omega, hx.gone0, hx.room, hx.ok⟩, fun c hc => ⟨(hFx c hc).1.1, (hFx c hc).1.2, (hFx c hc).2⟩, ⟨hFb.1, hFb.2, hbl⟩, fun W' x' hk hpg' => ?_⟩
  have hs1 := h.see.size
  have ho := hback W' x' hk ⟨p, rfl, hpg'⟩
  refine ⟨((Keeps.of_sees (F := fun _ => False) h.see).trans' hk (fun c hc e => by have := h.low c (hFx c e).1.1; omega)).sees_end (fun _ _ h => h), .inl h.fr, fun c hc => by rcases hc with hc | hc; exact h.low c hc; omega, _, h1.keeps hk (fun e => (hFx r e).1.2 rfl), ho.mono (fun c _ hc => ?_)⟩
  rcases hc with hc | hc
  · exact ⟨.inl hc.1, hc.2⟩
  · exact ⟨.inr hc, fun e => by subst e; have := h1.lt; omega⟩
/-- The ring's words are turned, and perhaps its pages. -/
theorem turn (h : RiM w1 F W r d) {d' : RD} {v' : Value} (hk : Keeps (fun b => b = r) W W') (ha : RiAt W' r d'.most d'.page d'.first d'.next v') (ho : pgEl.Own (fun b => F b ∧ b ≠ r) W v' d'.ps) : RiM w1 F W' r d' :=
  ⟨h.keep (hk.mono (fun b _ e => by subst e; exact h.fr)), h.fr, h.low, v', ha, ho.keeps hk (fun b hb e => hb.2 e)⟩
end RiM
end Go.Proofs.YthjcnhgfagefjaaDoor

namespace Go.Proofs.YthjcnhgfagefjaaDoor
set_option linter.unusedVariables false
set_option linter.unusedSimpArgs false
open Go.RowKit

/-- No ring: nil or zero. -/
def NoRi (w : World) (v : Value) : Prop := v = .pointer none ∨ ∃ r most first next sv, v = .pointer (some ⟨r, 0, none⟩) ∧ RiAt w r most 0 first next sv
theorem NoRi.sees {w W : World} {v : Value} (h : NoRi w v) (hs : Sees w W) : NoRi W v := by
  rcases h with h | ⟨r, m, f, x, sv, h, hp⟩
  · exact .inl h
  · exact .inr ⟨r, m, f, x, sv, h, hp.sees hs⟩
theorem rzero_no (w : World) (v : Value) (h : NoRi w v) : Calls Tryd.prog 40 #[v] w fun e w' => e = .returned (.bool true) ∧ Sees w w' := by
  have hw := Sees.refl w
  rcases h with rfl | ⟨r, m, f, x, sv, rfl, hp⟩
  · go_enter Tryd.func40, Tryd.ntmps40
    go_wp2
    go_ret
    exact ⟨rfl, hw⟩
  · obtain ⟨c0, c1, c2, c3, c4⟩ := hp.c
    clear hp
    go_enter Tryd.func40, Tryd.ntmps40
    go_wp2
    go_ret
    exact ⟨rfl, hw⟩
theorem rzero_at (w : World) (r : Nat) (most page first next : Int) (sv : Value) (h : RiAt w r most page first next sv) (hm : 1 ≤ page) :
    Calls Tryd.prog 40 #[.pointer (some ⟨r, 0, none⟩)] w fun e w' => e = .returned (.bool false) ∧ Sees w w' := by
  have hw := Sees.refl w
  obtain ⟨c0, c1, c2, c3, c4⟩ := h.c
  have hd : (page == 0) = false := beq_eq_false_iff_ne.2 (by omega)
  clear h hm
  go_enter Tryd.func40, Tryd.ntmps40
  go_wp2
  go_ret
  exact ⟨by simp [hd], hw⟩

theorem rfirst_no (w : World) (v : Value) (h : NoRi w v) : Calls Tryd.prog 17 #[v] w fun e w' => e = .returned (.int .i64 0) ∧ Sees w w' := by
  have H := Lib.hid h; clear h
  go_enter Tryd.func17, Tryd.ntmps17
  go_wp2_with fail
  refine (rzero_no _ _ H.out).mono ?_
  rintro e w1 ⟨rfl, hs⟩
  go_wp2
  go_ret
  exact ⟨rfl, hs⟩
theorem rfirst_at (w : World) (r : Nat) (most page first next : Int) (sv : Value) (h : RiAt w r most page first next (sv)) (hm : 1 ≤ page) :
    Calls Tryd.prog 17 #[.pointer (some ⟨r, 0, none⟩)] w fun e w' => e = .returned (.int .i64 first) ∧ Sees w w' := by
  have H := Lib.hid h; clear h
  have Hm := Lib.hid hm; clear hm
  go_enter Tryd.func17, Tryd.ntmps17
  go_wp2_with fail
  refine (rzero_at _ r _ _ _ _ _ H.out Hm.out).mono ?_
  rintro e w1 ⟨rfl, hs⟩
  obtain ⟨c0, c1, c2, c3, c4⟩ := (H.out.sees hs).c
  go_wp2
  go_ret
  exact ⟨rfl, hs⟩

theorem rnext_no (w : World) (v : Value) (h : NoRi w v) : Calls Tryd.prog 18 #[v] w fun e w' => e = .returned (.int .i64 0) ∧ Sees w w' := by
  have H := Lib.hid h; clear h
  go_enter Tryd.func18, Tryd.ntmps18
  go_wp2_with fail
  refine (rzero_no _ _ H.out).mono ?_
  rintro e w1 ⟨rfl, hs⟩
  go_wp2
  go_ret
  exact ⟨rfl, hs⟩
theorem rnext_at (w : World) (r : Nat) (most page first next : Int) (sv : Value) (h : RiAt w r most page first next (sv)) (hm : 1 ≤ page) :
    Calls Tryd.prog 18 #[.pointer (some ⟨r, 0, none⟩)] w fun e w' => e = .returned (.int .i64 next) ∧ Sees w w' := by
  have H := Lib.hid h; clear h
  have Hm := Lib.hid hm; clear hm
  go_enter Tryd.func18, Tryd.ntmps18
  go_wp2_with fail
  refine (rzero_at _ r _ _ _ _ _ H.out Hm.out).mono ?_
  rintro e w1 ⟨rfl, hs⟩
  obtain ⟨c0, c1, c2, c3, c4⟩ := (H.out.sees hs).c
  go_wp2
  go_ret
  exact ⟨rfl, hs⟩

theorem rmost_no (w : World) (v : Value) (h : NoRi w v) : Calls Tryd.prog 34 #[v] w fun e w' => e = .returned (.int .i64 0) ∧ Sees w w' := by
  have H := Lib.hid h; clear h
  go_enter Tryd.func34, Tryd.ntmps34
  go_wp2_with fail
  refine (rzero_no _ _ H.out).mono ?_
  rintro e w1 ⟨rfl, hs⟩
  go_wp2
  go_ret
  exact ⟨rfl, hs⟩
theorem rmost_at (w : World) (r : Nat) (most page first next : Int) (sv : Value) (h : RiAt w r most page first next (sv)) (hm : 1 ≤ page) :
    Calls Tryd.prog 34 #[.pointer (some ⟨r, 0, none⟩)] w fun e w' => e = .returned (.int .i64 most) ∧ Sees w w' := by
  have H := Lib.hid h; clear h
  have Hm := Lib.hid hm; clear hm
  go_enter Tryd.func34, Tryd.ntmps34
  go_wp2_with fail
  refine (rzero_at _ r _ _ _ _ _ H.out Hm.out).mono ?_
  rintro e w1 ⟨rfl, hs⟩
  obtain ⟨c0, c1, c2, c3, c4⟩ := (H.out.sees hs).c
  go_wp2
  go_ret
  exact ⟨rfl, hs⟩

theorem rpages_no (w : World) (v : Value) (h : NoRi w v) : Calls Tryd.prog 16 #[v] w fun e w' => e = .returned (.int .i64 0) ∧ Sees w w' := by
  have H := Lib.hid h; clear h
  go_enter Tryd.func16, Tryd.ntmps16
  go_wp2_with fail
  refine (rzero_no _ _ H.out).mono ?_
  rintro e w1 ⟨rfl, hs⟩
  go_wp2
  go_ret
  exact ⟨rfl, hs⟩
theorem rpages_at (w : World) (r : Nat) (most page first next : Int) (a : Option Addr) (n c : Nat) (h : RiAt w r most page first next (.slice a n c)) (hm : 1 ≤ page) :
    Calls Tryd.prog 16 #[.pointer (some ⟨r, 0, none⟩)] w fun e w' => e = .returned (.int .i64 (n : Int)) ∧ Sees w w' := by
  have H := Lib.hid h; clear h
  have Hm := Lib.hid hm; clear hm
  go_enter Tryd.func16, Tryd.ntmps16
  go_wp2_with fail
  refine (rzero_at _ r _ _ _ _ _ H.out Hm.out).mono ?_
  rintro e w1 ⟨rfl, hs⟩
  obtain ⟨c0, c1, c2, c3, c4⟩ := (H.out.sees hs).c
  go_wp2
  go_ret
  exact ⟨rfl, hs⟩

theorem rlen_no (w : World) (v : Value) (h : NoRi w v) : Calls Tryd.prog 23 #[v] w fun e w' => e = .returned (.int .i64 0) ∧ Sees w w' := by
  have H := Lib.hid h; clear h
  go_enter Tryd.func23, Tryd.ntmps23
  go_wp2_with fail
  refine (rnext_no _ _ H.out).mono ?_
  rintro e w1 ⟨rfl, hs⟩
  go_wp2_with fail
  refine (rfirst_no _ _ (H.out.sees hs)).mono ?_
  rintro e w2 ⟨rfl, hs2⟩
  go_wp2
  go_ret
  exact ⟨rfl, hs.trans hs2⟩
theorem rlen_at (w : World) (r : Nat) (most page first next : Int) (sv : Value) (h : RiAt w r most page first next sv) (hm : 1 ≤ page) (k : Int) (hk : first + k = next) (h0 : 0 ≤ first ∧ 0 ≤ k ∧ next ≤ 1000000000) :
    Calls Tryd.prog 23 #[.pointer (some ⟨r, 0, none⟩)] w fun e w' => e = .returned (.int .i64 k) ∧ Sees w w' := by
  have H := Lib.hid h; clear h
  have Hm := Lib.hid hm; clear hm
  have hsub : IntKind.i64.wrap (next - first) = k := by rw [IntWalk.i64_in _ (by omega)]; omega
  go_enter Tryd.func23, Tryd.ntmps23
  go_wp2_with fail
  refine (rnext_at _ r _ _ _ _ _ H.out Hm.out).mono ?_
  rintro e w1 ⟨rfl, hs⟩
  go_wp2_with fail
  refine (rfirst_at _ r _ _ _ _ _ (H.out.sees hs) Hm.out).mono ?_
  rintro e w2 ⟨rfl, hs2⟩
  go_wp2
  go_ret
  exact ⟨by first | rfl | (congr 2; omega), hs.trans hs2⟩

theorem rpush_no (w : World) (v : Value) (u : Value) (soft : Bool) (h : NoRi w v) : Calls Tryd.prog 33 #[v, .agg #[u, .bool soft]] w fun e w' => e = .returned (.tuple #[.int .i64 0, .int .i64 1]) ∧ Sees w w' := by
  have H := Lib.hid h; clear h
  go_enter Tryd.func33, Tryd.ntmps33
  go_wp2_with fail
  refine (rzero_no _ _ (H.out.sees (by first | exact Sees.refl _ | exact (Sees.refl _).alloc _ | exact ((Sees.refl _).alloc _).alloc _ | exact (((Sees.refl _).alloc _).alloc _).alloc _ | exact ((((Sees.refl _).alloc _).alloc _).alloc _).alloc _))).mono ?_
  rintro e w1 ⟨rfl, hs⟩
  have hs0 : Sees w w1 := by first | exact hs | exact ((Sees.refl _).alloc _).trans hs | exact (((Sees.refl _).alloc _).alloc _).trans hs | exact ((((Sees.refl _).alloc _).alloc _).alloc _).trans hs | exact (((((Sees.refl _).alloc _).alloc _).alloc _).alloc _).trans hs
  go_wp2
  first | (go_ret2; exact ⟨rfl, hs0⟩) | (go_end0; exact ⟨rfl, hs0⟩) | exact bodyPost_ret (results_none rfl _ _ _) rfl ⟨rfl, hs0⟩

theorem rlimit_no (w : World) (v : Value) (k : Int) (h : NoRi w v) : Calls Tryd.prog 20 #[v, .int .i64 k] w fun e w' => e = .returned (.int .i64 1) ∧ Sees w w' := by
  have H := Lib.hid h; clear h
  go_enter Tryd.func20, Tryd.ntmps20
  go_wp2_with fail
  refine (rzero_no _ _ (H.out.sees (by first | exact Sees.refl _ | exact (Sees.refl _).alloc _ | exact ((Sees.refl _).alloc _).alloc _ | exact (((Sees.refl _).alloc _).alloc _).alloc _ | exact ((((Sees.refl _).alloc _).alloc _).alloc _).alloc _))).mono ?_
  rintro e w1 ⟨rfl, hs⟩
  have hs0 : Sees w w1 := by first | exact hs | exact ((Sees.refl _).alloc _).trans hs | exact (((Sees.refl _).alloc _).alloc _).trans hs | exact ((((Sees.refl _).alloc _).alloc _).alloc _).trans hs | exact (((((Sees.refl _).alloc _).alloc _).alloc _).alloc _).trans hs
  go_wp2
  first | (go_ret; exact ⟨rfl, hs0⟩) | (go_end0; exact ⟨rfl, hs0⟩) | exact bodyPost_ret (results_none rfl _ _ _) rfl ⟨rfl, hs0⟩

theorem rclear_no (w : World) (v : Value) (h : NoRi w v) : Calls Tryd.prog 22 #[v] w fun e w' => e = .returned (.tuple #[]) ∧ Sees w w' := by
  have H := Lib.hid h; clear h
  go_enter Tryd.func22, Tryd.ntmps22
  go_wp2_with fail
  refine (rzero_no _ _ (H.out.sees (by first | exact Sees.refl _ | exact (Sees.refl _).alloc _ | exact ((Sees.refl _).alloc _).alloc _ | exact (((Sees.refl _).alloc _).alloc _).alloc _ | exact ((((Sees.refl _).alloc _).alloc _).alloc _).alloc _))).mono ?_
  rintro e w1 ⟨rfl, hs⟩
  have hs0 : Sees w w1 := by first | exact hs | exact ((Sees.refl _).alloc _).trans hs | exact (((Sees.refl _).alloc _).alloc _).trans hs | exact ((((Sees.refl _).alloc _).alloc _).alloc _).trans hs | exact (((((Sees.refl _).alloc _).alloc _).alloc _).alloc _).trans hs
  go_wp2
  first | (go_ret; exact ⟨rfl, hs0⟩) | (go_end0; exact ⟨rfl, hs0⟩) | exact bodyPost_ret (results_none rfl _ _ _) rfl ⟨rfl, hs0⟩

theorem rcopy_no (w : World) (v : Value) (h : NoRi w v) : Calls Tryd.prog 32 #[v] w fun e w' => e = .returned (.pointer none) ∧ Sees w w' := by
  have H := Lib.hid h; clear h
  go_enter Tryd.func32, Tryd.ntmps32
  go_wp2_with fail
  refine (rzero_no _ _ (H.out.sees (by first | exact Sees.refl _ | exact (Sees.refl _).alloc _ | exact ((Sees.refl _).alloc _).alloc _ | exact (((Sees.refl _).alloc _).alloc _).alloc _ | exact ((((Sees.refl _).alloc _).alloc _).alloc _).alloc _))).mono ?_
  rintro e w1 ⟨rfl, hs⟩
  have hs0 : Sees w w1 := by first | exact hs | exact ((Sees.refl _).alloc _).trans hs | exact (((Sees.refl _).alloc _).alloc _).trans hs | exact ((((Sees.refl _).alloc _).alloc _).alloc _).trans hs | exact (((((Sees.refl _).alloc _).alloc _).alloc _).alloc _).trans hs
  go_wp2
  first | (go_ret; exact ⟨rfl, hs0⟩) | (go_end0; exact ⟨rfl, hs0⟩) | exact bodyPost_ret (results_none rfl _ _ _) rfl ⟨rfl, hs0⟩
end Go.Proofs.YthjcnhgfagefjaaDoor

namespace Go.Proofs.YthjcnhgfagefjaaDoor
set_option linter.unusedVariables false
set_option linter.unusedSimpArgs false
open Go.RowKit

theorem RiAt.inj {W : World} {r : Nat} {m p f x m' p' f' x' : Int} {v v' : Value} (h : RiAt W r m p f x v) (h' : RiAt W r m' p' f' x' v') : v = v' := by
  have := h.c.2.2.2.2
  rw [h'.c.2.2.2.2] at this
  exact (Option.some.inj this).symm
theorem linesP_take {ps : List Pg} {j : Nat} {x : Pg} (h : ps[j]? = some x) : linesP (ps.take (j + 1)) = linesP (ps.take j) ++ x.ls := by
  obtain ⟨hj, rfl⟩ := List.getElem?_eq_some_iff.1 h
  rw [List.take_add_one, h, linesP_append]
  simp [linesP]
/-- The ring has a page there. -/
def PgIn (W : World) (r : Nat) (d : RD) (j p : Nat) : Prop := ∃ b c, RiAt W r d.most d.page d.first d.next (.slice (some ⟨b, 0, none⟩) d.ps.length c) ∧ W.cell? ⟨b, j, none⟩ = some (.pointer (some ⟨p, 0, none⟩))
theorem PgIn.sees {W W' : World} {r j p : Nat} {d : RD} (h : PgIn W r d j p) (hs : Sees W W') : PgIn W' r d j p := by
  obtain ⟨b, c, h1, h2⟩ := h
  exact ⟨b, c, h1.sees hs, hs.cell h2⟩

section
variable {w1 W : World} {F : Nat → Prop} {r : Nat} {d : RD}
theorem RiM.pageAt (h : RiM w1 F W r d) (hd : d.Ok) {j p : Nat} {x : Pg} (hj : d.ps[j]? = some x) (hp : PgIn W r d j p) :
    ∃ (Fx : Nat → Prop), PgF w1 Fx W p d.page x.gone x.ls ∧ (∀ c, Fx c → F c ∧ c ≠ r ∧ c < W.heap.size) ∧
      ∀ (W' : World) (x' : Pg), Keeps Fx W W' → Page (fun c => Fx c ∨ W.heap.size ≤ c) W' p x'.most x'.gone x'.ls → RiM w1 (fun c => F c ∨ W.heap.size ≤ c) W' r { d with ps := d.ps.set j x' } := by
  obtain ⟨b, cap, q, Fx, h1, _, h3, h4, h5, _, h7⟩ := h.page hj (hd.pgs x (List.mem_iff_getElem?.2 ⟨j, hj⟩)).1 ⟨hd.page0, hd.page1⟩
  obtain ⟨b', c', k1, k2⟩ := hp
  have e := k1.inj h1
  cases e
  rw [h3] at k2
  cases k2
  exact ⟨Fx, h4, fun c hc => ⟨(h5 c hc).1, (h5 c hc).2.1, (h5 c hc).2.2.2⟩, h7⟩

set_option maxRecDepth 100000 in
set_option maxHeartbeats 2000000 in
theorem rat_ok (h : RiM w1 F W r d) (hd : d.Ok) (n : Int) (h1 : d.first ≤ n) (h2 : n < d.next) :
    Calls Tryd.prog 44 #[.pointer (some ⟨r, 0, none⟩), .int .i64 n] W fun e w' => ∃ (j k p : Nat) (x : Pg), d.ps[j]? = some x ∧ k < x.ls.length ∧ n = d.first + (linesP (d.ps.take j)).length + k ∧ PgIn W r d j p ∧
      e = .returned (.tuple #[.pointer (some ⟨p, 0, none⟩), .int .i64 k, .int .i64 0]) ∧ Sees W w' := by
  have H := Lib.hid h
  have HD := Lib.hid hd
  have g0 := hd.first0
  have g1 := hd.next1
  obtain ⟨most, page, first, next, ps⟩ := d
  simp only [] at h1 h2 g0 g1
  have Htot := Lib.hid hd.tot
  have hp0 := hd.page0
  simp only [] at hp0
  obtain ⟨a, c, hA, hc⟩ := h.words
  simp only [] at hA hc
  obtain ⟨N, hN⟩ : ∃ N, N = ps.length := ⟨_, rfl⟩
  rw [← hN] at hA hc
  have HN := Lib.hid hN
  have HA := Lib.hid hA
  have Hp0 := Lib.hid hp0
  have hN1 : N ≤ 1000000000 := by
    have := Htot.out
    simp only [] at this
    have h3 := ps_le (fun p hp => (hd.pgs p hp).2)
    simp only [] at h3
    omega
  have HPG := Lib.hid (fun (j : Nat) (hj : j < N) => (show ∃ (x : Pg) (b p : Nat) (Fx : Nat → Prop), ps[j]? = some x ∧ a = some ⟨b, 0, none⟩ ∧ W.cell? ⟨b, j, none⟩ = some (.pointer (some ⟨p, 0, none⟩)) ∧ PgF w1 Fx W p page x.gone x.ls ∧ x.ls.length ≤ 1024 from by
    have hj2 : j < ps.length := by omega
    obtain ⟨b, cap, q, Fx, k1, _, k3, k4, _⟩ := h.page (i := j) (List.getElem?_eq_getElem hj2) (hd.pgs _ (List.getElem_mem hj2)).1 ⟨hd.page0, hd.page1⟩
    have e := hA.inj k1
    simp only [Value.slice.injEq] at e
    exact ⟨_, b, q, Fx, List.getElem?_eq_getElem hj2, e.1, k3, k4, k4.toS.len⟩))
  have d1 : decide (n < 0) = false := decide_eq_false (by omega)
  have d2 : decide (n ≥ next) = false := decide_eq_false (by omega)
  have d3 : decide (n < first) = false := decide_eq_false (by omega)
  have d2' : decide (next ≤ n) = false := decide_eq_false (by omega)
  obtain ⟨k0, hk0⟩ : ∃ k0 : Nat, n = first + k0 := ⟨(n - first).toNat, by omega⟩
  have hsub : IntKind.i64.wrap (n - first) = (k0 : Int) := by rw [IntWalk.i64_in _ (by omega)]; omega
  have hk1 : k0 ≤ 1000000000 := by omega
  have HK0 := Lib.hid hk0
  clear h hd hN hA hc hp0 hk0
  go_enter Tryd.func44, Tryd.ntmps44
  go_wp2_with fail
  refine (rzero_at _ r _ _ _ _ _ HA.out Hp0.out).mono ?_
  rintro e W0 ⟨rfl, hs⟩
  have HS := Lib.hid hs
  obtain ⟨x0, x1, x2, x3, x4⟩ := (HA.out.sees hs).c
  clear hs
  go_wp2_with fail
  go_loopw [7, 42] (fun i idx wr => ∃ j k : Nat, j ≤ N ∧ k ≤ k0 ∧ idx = .int .i64 j ∧ i = .int .i64 k ∧ n = first + (linesP (ps.take j)).length + k ∧ Sees W wr) (fun _ idx _ => N - (intOf idx).toNat)
  case atStart => exact ⟨0, k0, by omega, by omega, rfl, by congr 1, by simp [linesP]; exact HK0.out, HS.out⟩
  case round =>
    obtain ⟨j, k, hj, hk, rfl, rfl, hn, hS⟩ := hrel
    have Hn := Lib.hid hn
    clear hn x0 x1 x2 x3 x4
    have hjN : j < N := by
      rcases Nat.lt_or_ge j N with h | h
      · exact h
      · have e1 := Hn.out
        rw [List.take_of_length_le (by have := HN.out; omega)] at e1
        have := Htot.out
        omega
    obtain ⟨x, b, p, Fx, hx, rfl, hc0, hpg, hxl⟩ := HPG.out j hjN
    obtain ⟨m, hm⟩ : ∃ m, m = x.ls.length := ⟨_, rfl⟩
    rw [← hm] at hxl
    have HX := Lib.hid hx
    have HM := Lib.hid hm
    have HC := Lib.hid hc0
    have hc1 := hS.cell hc0
    have HPg := Lib.hid (hpg.sees hS)
    have HS1 := Lib.hid hS
    clear hx hm hpg hc0 hS
    go_wp2_with fail
    refine (HPg.out.toS.lenIs (m : Int) (by rw [HM.out])).mono ?_
    rintro e W2 ⟨rfl, hs2⟩
    have HS2 := Lib.hid (HS1.out.trans hs2)
    have HPg2 := Lib.hid (HPg.out.sees hs2)
    clear hs2 HS1 HPg hc1
    by_cases hlt : k < m
    · go_wp2
      refine bodyPost_ret_by (v := .tuple #[.pointer (some ⟨p, 0, none⟩), .int .i64 k, .int .i64 0]) (by simp [results, Tryd.results44, go_sem]) rfl ?_
      exact ⟨j, k, p, x, HX.out, by rw [← HM.out]; exact hlt, Hn.out, ⟨b, c, by rw [← HN.out]; exact HA.out, HC.out⟩, rfl, HS2.out⟩
    · have hsub2 : IntKind.i64.wrap ((k : Int) - (m : Int)) = ((k - m : Nat) : Int) := by rw [IntWalk.i64_in _ (by omega)]; omega
      go_wp2_with fail
      refine (HPg2.out.toS.lenIs (m : Int) (by rw [HM.out])).mono ?_
      rintro e W3 ⟨rfl, hs3⟩
      have HS3 := Lib.hid (HS2.out.trans hs3)
      clear hs3 HS2 HPg2
      go_wp2
      refine ⟨⟨j + 1, k - m, by omega, by omega, by go_num, rfl, ?_, HS3.out⟩, by simp [intOf] <;> omega⟩
      rw [linesP_take HX.out, List.length_append, ← HM.out]
      have := Hn.out
      omega
end
end Go.Proofs.YthjcnhgfagefjaaDoor

namespace Go.Proofs.YthjcnhgfagefjaaDoor
set_option linter.unusedVariables false
set_option linter.unusedSimpArgs false

/-- The shape of pages: how many lines are gone, and how many are there. -/
def gl (ps : List Pg) : List (Int × Nat) := ps.map (fun p => (p.gone, p.ls.length))
/-- Lines taken away at the front. -/
def dropF : Nat → List Pg → List Pg
  | _, [] => []
  | k, p :: ps => if k = 0 then p :: ps else if k < p.ls.length then { p with gone := p.gone + k, ls := p.ls.drop k } :: ps else dropF (k - p.ls.length) ps
def dropG : Nat → List (Int × Nat) → List (Int × Nat)
  | _, [] => []
  | k, p :: ps => if k = 0 then p :: ps else if k < p.2 then (p.1 + k, p.2 - k) :: ps else dropG (k - p.2) ps
theorem dropF_zero (ps : List Pg) : dropF 0 ps = ps := by cases ps <;> simp [dropF]
theorem dropG_zero (ps : List (Int × Nat)) : dropG 0 ps = ps := by cases ps <;> simp [dropG]
theorem gl_dropF : ∀ (ps : List Pg) (k : Nat), gl (dropF k ps) = dropG k (gl ps)
  | [], k => by simp [dropF, dropG, gl]
  | p :: ps, k => by
    have ih := gl_dropF ps (k - p.ls.length)
    simp only [dropF, gl, List.map_cons, dropG]
    split
    · rfl
    · split
      · simp
      · exact ih
theorem linesP_dropF : ∀ (ps : List Pg) (k : Nat), linesP (dropF k ps) = (linesP ps).drop k
  | [], k => by simp [dropF, linesP]
  | p :: ps, k => by
    have ih := linesP_dropF ps (k - p.ls.length)
    simp only [dropF]
    split
    · rename_i h; subst h; simp
    · split
      · rename_i h1 h2
        rw [linesP_cons, linesP_cons, List.drop_append_of_le_length (by omega)]
      · rename_i h1 h2
        rw [ih, linesP_cons, List.drop_append, (List.drop_eq_nil_of_le (by omega) : p.ls.drop k = []), List.nil_append]
/-- Pages that may be there. -/
def PsOk (page : Int) (ps : List Pg) : Prop := ∀ p ∈ ps, PgOk page p ∧ p.ls ≠ []
theorem PsOk.dropF {page : Int} : ∀ {ps : List Pg} (k : Nat), PsOk page ps → PsOk page (dropF k ps)
  | [], k, h => by simpa [Go.Proofs.YthjcnhgfagefjaaDoor.dropF] using h
  | p :: ps, k, h => by
    have ih := PsOk.dropF (ps := ps) (k - p.ls.length) (fun q hq => h q (List.mem_cons_of_mem _ hq))
    have hp := (h p (List.mem_cons_self ..)).1
    simp only [Go.Proofs.YthjcnhgfagefjaaDoor.dropF]
    split
    · exact h
    · split
      · rename_i h1 h2
        intro q hq
        rcases List.mem_cons.1 hq with rfl | hq
        · refine ⟨⟨hp.most, by have := hp.gone0; show 0 ≤ p.gone + (k : Int); omega, ?_, fun l hl => hp.ok l (List.mem_of_mem_drop hl)⟩, fun e => ?_⟩
          · have := hp.room
            show p.gone + (k : Int) + ((p.ls.drop k).length : Int) ≤ page
            rw [List.length_drop]; omega
          · have := congrArg List.length e
            simp [List.length_drop] at this; omega
        · exact h q (List.mem_cons_of_mem _ hq)
      · exact ih
/-- No page in the middle has room, and only the first one has lost lines. -/
def Tight (page : Int) : List (Int × Nat) → Prop
  | [] => True
  | [_] => True
  | p :: q :: rest => p.1 + p.2 = page ∧ q.1 = 0 ∧ Tight page (q :: rest)
theorem Tight.tail {page : Int} {p : Int × Nat} {g : List (Int × Nat)} (h : Tight page (p :: g)) : Tight page g := by
  cases g with
  | nil => trivial
  | cons q rest => exact h.2.2
theorem Tight.dropG {page : Int} : ∀ {g : List (Int × Nat)} (k : Nat), Tight page g → Tight page (dropG k g)
  | [], k, h => by simp [Go.Proofs.YthjcnhgfagefjaaDoor.dropG, Tight]
  | p :: g, k, h => by
    have ih := Tight.dropG (g := g) (k - p.2) h.tail
    simp only [Go.Proofs.YthjcnhgfagefjaaDoor.dropG]
    split
    · exact h
    · split
      · rename_i h1 h2
        cases g with
        | nil => trivial
        | cons q rest => exact ⟨by have := h.1; show p.1 + (k : Int) + ((p.2 - k : Nat) : Int) = page; omega, h.2⟩
      · exact ih
def sumG (g : List (Int × Nat)) : Nat := (g.map (·.2)).sum
theorem sum_gl : ∀ ps : List Pg, sumG (gl ps) = (linesP ps).length
  | [] => rfl
  | p :: ps => by
    have ih := sum_gl ps
    rw [linesP_cons, List.length_append, ← ih]; rfl
/-- There are not many pages. -/
theorem Tight.count {page : Int} (hp : 1 ≤ page) : ∀ {g : List (Int × Nat)} {p : Int × Nat}, Tight page (p :: g) → (∀ q ∈ p :: g, 1 ≤ q.2) → p.1 = 0 → page * (g.length : Int) + 1 ≤ sumG (p :: g)
  | [], p, _, h1, _ => by
    have := h1 p (List.mem_cons_self ..)
    simp [sumG]; omega
  | q :: g, p, h, h1, h0 => by
    have ih := Tight.count hp (g := g) (p := q) h.2.2 (fun x hx => h1 x (List.mem_cons_of_mem _ hx)) h.2.1
    have h3 := h.1
    have e : sumG (p :: q :: g) = p.2 + sumG (q :: g) := rfl
    rw [e, List.length_cons, Int.natCast_add, Int.natCast_add, Int.mul_add]
    simp only [Int.natCast_one, Int.mul_one]
    omega
theorem Tight.pages {page most : Int} (hp : 1 ≤ page) {g : List (Int × Nat)} (h : Tight page g) (h1 : ∀ q ∈ g, 1 ≤ q.2) (hs : (sumG g : Int) ≤ most) : (g.length : Int) ≤ most / page + 2 := by
  have h0 : 0 ≤ most := by omega
  have hd : 0 ≤ most / page := Int.ediv_nonneg h0 (by omega)
  cases g with
  | nil => simp; omega
  | cons p g =>
    cases g with
    | nil => simp; omega
    | cons q g =>
      have := Tight.count hp h.2.2 (fun x hx => h1 x (List.mem_cons_of_mem _ hx)) h.2.1
      have e : sumG (p :: q :: g) = p.2 + sumG (q :: g) := rfl
      have hg : (g.length : Int) ≤ most / page := by
        refine (Int.le_ediv_iff_mul_le (by omega)).2 ?_
        rw [Int.mul_comm]
        omega
      simp only [List.length_cons]
      omega
theorem gl_pos {page : Int} {ps : List Pg} (h : PsOk page ps) : ∀ q ∈ gl ps, 1 ≤ q.2 := by
  intro q hq
  obtain ⟨p, hp, rfl⟩ := List.mem_map.1 hq
  exact List.length_pos_iff.2 (h p hp).2

/-- A ring's data, as it is seen. -/
structure RD.Is (d : RD) (most page first : Int) (ls : List Ln) (g : List (Int × Nat)) : Prop where
  ok : d.Ok
  most : d.most = most
  page : d.page = page
  first : d.first = first
  lines : linesP d.ps = ls
  gl : gl d.ps = g
end Go.Proofs.YthjcnhgfagefjaaDoor

namespace Go.Proofs.YthjcnhgfagefjaaDoor
set_option linter.unusedVariables false
set_option linter.unusedSimpArgs false
open Go.RowKit

/-- A line more. -/
def pushP (page : Int) : List Pg → Ln → List Pg
  | [], l => [⟨page, 0, [l]⟩]
  | [x], l => if x.gone + x.ls.length = page then [x, ⟨page, 0, [l]⟩] else [{ x with ls := x.ls ++ [l] }]
  | x :: y :: ps, l => x :: pushP page (y :: ps) l
def pushG (page : Int) : List (Int × Nat) → List (Int × Nat)
  | [] => [(0, 1)]
  | [x] => if x.1 + x.2 = page then [x, (0, 1)] else [(x.1, x.2 + 1)]
  | x :: y :: g => x :: pushG page (y :: g)
theorem pushP_full {page : Int} : ∀ {ps0 : List Pg} {x : Pg} {l : Ln}, x.gone + x.ls.length = page → pushP page (ps0 ++ [x]) l = ps0 ++ [x] ++ [⟨page, 0, [l]⟩]
  | [], x, l, h => by simp [pushP, h]
  | [y], x, l, h => by
    have ih := pushP_full (ps0 := []) (x := x) (l := l) h
    simp only [List.nil_append, List.cons_append] at ih ⊢
    rw [pushP, ih]
  | y :: z :: ps0, x, l, h => by
    have ih := pushP_full (ps0 := z :: ps0) (x := x) (l := l) h
    simp only [List.cons_append] at ih ⊢
    rw [pushP, ih]
theorem pushP_room {page : Int} : ∀ {ps0 : List Pg} {x : Pg} {l : Ln}, x.gone + x.ls.length ≠ page → pushP page (ps0 ++ [x]) l = ps0 ++ [{ x with ls := x.ls ++ [l] }]
  | [], x, l, h => by simp [pushP, h]
  | [y], x, l, h => by
    have ih := pushP_room (ps0 := []) (x := x) (l := l) h
    simp only [List.nil_append, List.cons_append] at ih ⊢
    rw [pushP, ih]
  | y :: z :: ps0, x, l, h => by
    have ih := pushP_room (ps0 := z :: ps0) (x := x) (l := l) h
    simp only [List.cons_append] at ih ⊢
    rw [pushP, ih]
theorem gl_pushP {page : Int} {l : Ln} : ∀ {ps : List Pg}, gl (pushP page ps l) = pushG page (gl ps)
  | [] => rfl
  | [x] => by
    unfold pushP
    split
    · rename_i h; simp [gl, pushG, h]
    · rename_i h; simp [gl, pushG, h]
  | x :: y :: ps => by
    have ih := gl_pushP (page := page) (l := l) (ps := y :: ps)
    show (x.gone, x.ls.length) :: gl (pushP page (y :: ps) l) = _
    rw [ih]; rfl
theorem linesP_pushP {page : Int} {l : Ln} : ∀ {ps : List Pg}, linesP (pushP page ps l) = linesP ps ++ [l]
  | [] => rfl
  | [x] => by
    unfold pushP
    split <;> simp [linesP]
  | x :: y :: ps => by
    have ih := linesP_pushP (page := page) (l := l) (ps := y :: ps)
    show x.ls ++ linesP (pushP page (y :: ps) l) = _
    rw [ih, linesP_cons x, List.append_assoc]
theorem PsOk.pushP {page : Int} {l : Ln} (hl : lnOk l.cells = true) (hp : 1 ≤ page) : ∀ {ps : List Pg}, PsOk page ps → PsOk page (pushP page ps l)
  | [], _ => by
    intro q hq
    simp [Go.Proofs.YthjcnhgfagefjaaDoor.pushP] at hq
    subst hq
    exact ⟨⟨rfl, Int.le_refl _, by simp; omega, fun m hm => by simp at hm; subst hm; exact hl⟩, by simp⟩
  | [x], h => by
    unfold Go.Proofs.YthjcnhgfagefjaaDoor.pushP
    have hx := h x (by simp)
    split
    · intro q hq
      simp at hq
      rcases hq with rfl | rfl
      · exact hx
      · exact ⟨⟨rfl, Int.le_refl _, by simp; omega, fun m hm => by simp at hm; subst hm; exact hl⟩, by simp⟩
    · rename_i hne
      intro q hq
      simp at hq
      subst hq
      refine ⟨⟨hx.1.most, hx.1.gone0, by have := hx.1.room; simp only [List.length_append, List.length_cons, List.length_nil]; omega, fun m hm => ?_⟩, by simp⟩
      rcases List.mem_append.1 hm with hm | hm
      · exact hx.1.ok m hm
      · simp at hm; subst hm; exact hl
  | x :: y :: ps, h => by
    have ih := PsOk.pushP hl hp (ps := y :: ps) (fun q hq => h q (List.mem_cons_of_mem _ hq))
    intro q hq
    rcases List.mem_cons.1 hq with rfl | hq
    · exact h _ (List.mem_cons_self ..)
    · exact ih q hq
theorem Tight.pushG {page : Int} : ∀ {g : List (Int × Nat)}, Tight page g → Tight page (pushG page g)
  | [], _ => trivial
  | [x], _ => by
    unfold Go.Proofs.YthjcnhgfagefjaaDoor.pushG
    split
    · rename_i h; exact ⟨h, rfl, trivial⟩
    · trivial
  | [x, y], h => by
    have ih := Tight.pushG (g := [y]) h.2.2
    unfold Go.Proofs.YthjcnhgfagefjaaDoor.pushG
    simp only [Go.Proofs.YthjcnhgfagefjaaDoor.pushG] at ih ⊢
    split
    · rename_i h2; rw [if_pos h2] at ih; exact ⟨h.1, h.2.1, ih⟩
    · exact ⟨h.1, h.2.1, trivial⟩
  | x :: y :: z :: g, h => by
    have ih := Tight.pushG (g := y :: z :: g) h.2.2
    simp only [Go.Proofs.YthjcnhgfagefjaaDoor.pushG] at ih ⊢
    exact ⟨h.1, h.2.1, ih⟩
/-- The last line is taken away. -/
def popG : List (Int × Nat) → List (Int × Nat)
  | [] => []
  | [x] => if x.2 ≤ 1 then [] else [(x.1, x.2 - 1)]
  | x :: y :: g => x :: popG (y :: g)
theorem popG_last {x : Int × Nat} : ∀ {g0 : List (Int × Nat)}, popG (g0 ++ [x]) = g0 ++ (if x.2 ≤ 1 then [] else [(x.1, x.2 - 1)])
  | [] => by simp [popG]
  | [y] => by simp [popG]
  | y :: z :: g0 => by
    have ih := popG_last (x := x) (g0 := z :: g0)
    simp only [List.cons_append] at ih ⊢
    rw [popG, ih]
theorem Tight.popG {page : Int} : ∀ {g : List (Int × Nat)}, Tight page g → Tight page (popG g)
  | [], _ => trivial
  | [x], _ => by
    unfold Go.Proofs.YthjcnhgfagefjaaDoor.popG
    split <;> trivial
  | [x, y], h => by
    unfold Go.Proofs.YthjcnhgfagefjaaDoor.popG
    simp only [Go.Proofs.YthjcnhgfagefjaaDoor.popG]
    split
    · trivial
    · exact ⟨h.1, h.2.1, trivial⟩
  | x :: y :: z :: g, h => by
    have ih := Tight.popG (g := y :: z :: g) h.2.2
    simp only [Go.Proofs.YthjcnhgfagefjaaDoor.popG] at ih ⊢
    exact ⟨h.1, h.2.1, ih⟩
/-- There is a last line, and it is on the last page. -/
theorem last_page {ps : List Pg} (h : ∀ p ∈ ps, p.ls ≠ []) {ls0 : List Ln} {l : Ln} (hl : linesP ps = ls0 ++ [l]) : ∃ (ps0 : List Pg) (x : Pg) (m0 : List Ln), ps = ps0 ++ [x] ∧ x.ls = m0 ++ [l] ∧ ls0 = linesP ps0 ++ m0 := by
  rcases List.eq_nil_or_concat ps with rfl | ⟨ps0, x, rfl⟩
  · simp [linesP] at hl
  rw [List.concat_eq_append] at h hl ⊢
  rcases List.eq_nil_or_concat x.ls with hx | ⟨m0, m, hx⟩
  · exact absurd hx (h x (by simp))
  rw [List.concat_eq_append] at hx
  have e : linesP (ps0 ++ [x]) = (linesP ps0 ++ m0) ++ [m] := by rw [linesP_append]; simp [linesP, hx]
  rw [e] at hl
  obtain ⟨h1, h2⟩ := List.append_inj' hl rfl
  simp only [List.cons.injEq, and_true] at h2
  subst h2
  exact ⟨ps0, x, m0, rfl, hx, h1.symm⟩
end Go.Proofs.YthjcnhgfagefjaaDoor
