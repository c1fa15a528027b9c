/- Three rows of the call's own, of bytes, of places, of matches (42). No condition. -/
import Derived.Test.YtfdolhppbimbmaaDoorSrS
import Derived.Test.YtfdolhppbimbmaaDoorGaS
namespace Go.Proofs.YtfdolhppbimbmaaDoor
set_option linter.unusedVariables false
set_option linter.unusedSimpArgs false
open Go.RowKit Go.Shelf

def byE : El UInt8 := wordsEl 5 1 (fun b => [.int .u8 b.toNat]) (by decide) (fun _ => rfl) (by intro x v hv; simp at hv; subst hv; rfl)
theorem typedBy : El.Typed Tryd.prog byE 163 := El.typed_of (z := .int .u8 0) (bytes := 1) Tryd.underlying163 (by kernel_rfl) rfl (by decide)
section
variable {α : Type} {ty : TypeId} {n : Nat} {f : α → List Value} {hn : 0 < n} {hl : ∀ x, (f x).length = n} {h1 : ∀ x, ∀ v ∈ f x, v.oneCell' = true}
theorem words_ownIn {F G : Nat → Prop} {w : World} : ∀ {xs : List α} {vs : List Value} {F : Nat → Prop}, (wordsEl ty n f hn hl h1).ownIn F w vs xs → (wordsEl ty n f hn hl h1).ownIn G w vs xs
  | [], _, _, h => h
  | x :: xs, vs, F, ⟨F1, F2, _, _, _, h4, h5⟩ => ⟨fun _ => False, fun _ => False, fun _ h => h.elim, fun _ h => h.elim, fun _ h => h.elim, h4, words_ownIn (F := F) h5⟩
theorem words_self {F : Nat → Prop} {w : World} {v : Value} {xs : List α} (h : (wordsEl ty n f hn hl h1).Own F w v xs) : (wordsEl ty n f hn hl h1).Own (fun b => v.ownBlock = some b) w v xs := by
  obtain ⟨vals, h1, h2, h3⟩ := h
  exact ⟨vals, h1, fun g hg => hg, words_ownIn (F := F) h3⟩
end
section
variable {α β : Type} {E : El α} {E' : El β}
theorem own_ty {F : Nat → Prop} {w : World} {v : Value} {xs : List α} (h : E.Own F w v xs) {x : Nat} (hx : v.ownBlock = some x) : ∃ c fz, w.heap[x]? = some (.cells c E.ty fz) := by
  obtain ⟨vals, ⟨h1, h2⟩, h3, h4⟩ := h
  rcases h2 with ⟨rfl, _⟩ | ⟨g, cap, cur, rfl, h5, hg, h6⟩
  · cases hx
  · cases hx
    exact ⟨cur, _, hg⟩
theorem own_apart {F F' : Nat → Prop} {w : World} {v v' : Value} {xs : List α} {ys : List β} (h : E.Own F w v xs) (h' : E'.Own F' w v' ys) (hne : E.ty ≠ E'.ty) (b : Nat) (hb : v.ownBlock = some b) (hb' : v'.ownBlock = some b) : False := by
  obtain ⟨c, fz, h1⟩ := own_ty h hb
  obtain ⟨c', fz', h2⟩ := own_ty h' hb'
  rw [h1] at h2
  injection h2 with h2
  injection h2 with _ h3 _
  exact hne h3
end
theorem by_news {W : World} {g : Nat} {b : UInt8} (hg : W.heap[g]? = some (.cells #[.int .u8 (b.toNat : Int)] 5 (0, 0))) : byE.ownIn (fun _ => False) W [.int .u8 (b.toNat : Int)] [b] ∧ ∀ j u, [Value.int .u8 (b.toNat : Int)][j]? = some u → W.cell? ((⟨g, 0, none⟩ : Addr).add j) = some u :=
  ⟨El.ownIn_one (E := byE) rfl, fun j u hu => El.row_cells hg j u hu⟩
/-- What a function has made so far: a text, its places, matches. -/
structure MdSt (w : World) (bs : List UInt8) (ps : List (Int × Int)) (os : List Mt) (ut up uo : Value) (W : World) : Prop where
  t : byE.Own (fun b => ut.ownBlock = some b) W ut bs
  p : plEl.Own (fun b => up.ownBlock = some b) W up ps
  o : mtEl.Own (fun b => uo.ownBlock = some b) W uo os
  a1 : ∀ b, ut.ownBlock = some b → w.heap.size ≤ b
  a2 : ∀ b, up.ownBlock = some b → w.heap.size ≤ b
  a3 : ∀ b, uo.ownBlock = some b → w.heap.size ≤ b
  s : Sees w W
namespace MdSt
variable {w W W1 W2 : World} {bs : List UInt8} {ps : List (Int × Int)} {os : List Mt} {ut up uo v : Value}
theorem sees (h : MdSt w bs ps os ut up uo W) (hs : Sees W W1) : MdSt w bs ps os ut up uo W1 := ⟨h.t.sees hs, h.p.sees hs, h.o.sees hs, h.a1, h.a2, h.a3, h.s.trans hs⟩
theorem start (w : World) : MdSt w [] [] [] (.slice none 0 0) (.slice none 0 0) (.slice none 0 0) w := ⟨El.Own.nil _ _, El.Own.nil _ _, El.Own.nil _ _, fun b h => (by cases h), fun b h => (by cases h), fun b h => (by cases h), Sees.refl w⟩
theorem clear (h : MdSt w bs ps os ut up uo W) : MdSt w [] [] os (.slice none 0 0) (.slice none 0 0) uo W := ⟨El.Own.nil _ _, El.Own.nil _ _, h.o, fun b h => (by cases h), fun b h => (by cases h), h.a3, h.s⟩
theorem ne1 : byE.ty ≠ plEl.ty := by decide
theorem ne2 : byE.ty ≠ mtEl.ty := by decide
theorem ne3 : plEl.ty ≠ mtEl.ty := by decide
theorem addT (h : MdSt w bs ps os ut up uo W) (hs : Sees W W1) {x : UInt8} (ho : byE.Own (fun b => ut.ownBlock = some b ∨ False ∨ W1.heap.size ≤ b) W2 v (bs ++ [x])) (hk : Keeps (fun b => ut.ownBlock = some b) W1 W2) : MdSt w (bs ++ [x]) ps os v up uo W2 := by
  have h1 := h.sees hs
  refine ⟨words_self ho, h1.p.keeps hk (fun b hb hb' => own_apart h1.t h1.p ne1 b hb' hb), h1.o.keeps hk (fun b hb hb' => own_apart h1.t h1.o ne2 b hb' hb), fun b hb => ?_, h.a2, h.a3, El.keep_new h1.s hk h.a1⟩
  rcases (ho.base hb).1 with e | e | e
  · exact h.a1 b e
  · exact e.elim
  · exact Nat.le_trans h1.s.size e
theorem addP (h : MdSt w bs ps os ut up uo W) (hs : Sees W W1) {x : Int × Int} (ho : plEl.Own (fun b => up.ownBlock = some b ∨ False ∨ W1.heap.size ≤ b) W2 v (ps ++ [x])) (hk : Keeps (fun b => up.ownBlock = some b) W1 W2) : MdSt w bs (ps ++ [x]) os ut v uo W2 := by
  have h1 := h.sees hs
  refine ⟨h1.t.keeps hk (fun b hb hb' => own_apart h1.t h1.p ne1 b hb hb'), words_self ho, h1.o.keeps hk (fun b hb hb' => own_apart h1.p h1.o ne3 b hb' hb), h.a1, fun b hb => ?_, h.a3, El.keep_new h1.s hk h.a2⟩
  rcases (ho.base hb).1 with e | e | e
  · exact h.a2 b e
  · exact e.elim
  · exact Nat.le_trans h1.s.size e
theorem addO (h : MdSt w bs ps os ut up uo W) (hs : Sees W W1) {x : Mt} (ho : mtEl.Own (fun b => uo.ownBlock = some b ∨ False ∨ W1.heap.size ≤ b) W2 v (os ++ [x])) (hk : Keeps (fun b => uo.ownBlock = some b) W1 W2) : MdSt w bs ps (os ++ [x]) ut up v W2 := by
  have h1 := h.sees hs
  refine ⟨h1.t.keeps hk (fun b hb hb' => own_apart h1.t h1.o ne2 b hb hb'), h1.p.keeps hk (fun b hb hb' => own_apart h1.p h1.o ne3 b hb hb'), mt_self ho, h.a1, h.a2, fun b hb => ?_, El.keep_new h1.s hk h.a3⟩
  rcases (ho.base hb).1 with e | e | e
  · exact h.a3 b e
  · exact e.elim
  · exact Nat.le_trans h1.s.size e
/-- The bytes and the places, read. -/
theorem byte {a : Option Addr} {n c k : Nat} (h : MdSt w bs ps os (.slice a n c) up uo W) (hk : k < n) : ∃ b o x, a = some ⟨b, o, none⟩ ∧ bs[k]? = some x ∧ W.cell? ⟨b, o + k, none⟩ = some (.int .u8 (x.toNat : Int)) := by
  obtain ⟨b, o, x, vs, rfl, _, hx, hvs, hc⟩ := h.t.rd.at_ hk
  have hvs : vs = [.int .u8 (x.toNat : Int)] := hvs
  subst hvs
  have h0 := hc 0 _ rfl
  have e : byE.n = 1 := rfl
  rw [e, Nat.mul_one, Nat.add_zero] at h0
  exact ⟨b, o, x, rfl, hx, h0⟩
theorem place {a : Option Addr} {n c k : Nat} (h : MdSt w bs ps os ut (.slice a n c) uo W) (hk : k < n) : ∃ b o x, a = some ⟨b, o, none⟩ ∧ ps[k]? = some x ∧ W.cell? ⟨b, o + k * 2, none⟩ = some (.int .i64 x.1) ∧ W.cell? ⟨b, o + k * 2 + 1, none⟩ = some (.int .i64 x.2) := by
  obtain ⟨b, o, x, vs, rfl, _, hx, hvs, hc⟩ := h.p.rd.at_ hk
  have hvs : vs = [.int .i64 x.1, .int .i64 x.2] := hvs
  subst hvs
  exact ⟨b, o, x, rfl, hx, hc 0 _ rfl, hc 1 _ rfl⟩
end MdSt
/-- The plain law of a statement's search: what is still to come, from a row on. -/
theorem segs_here {n : Int} {acc : List Bp} {ls : List Ln} {i : Nat} {x : Ln} (hx : ls[i]? = some x) : segs n acc (ls.drop i) = if (!x.soft || decide (i + 1 = ls.length)) then (acc ++ rowB n true x) :: segs (n + 1) [] (ls.drop (i + 1)) else segs (n + 1) (acc ++ rowB n false x) (ls.drop (i + 1)) := by
  have hi := (List.getElem?_eq_some_iff.1 hx).1
  have hd : ls.drop i = x :: ls.drop (i + 1) := by
    rw [List.drop_eq_getElem_cons hi, (List.getElem?_eq_some_iff.1 hx).2]
  rw [hd, segs]
  have he : (ls.drop (i + 1)).isEmpty = decide (i + 1 = ls.length) := by
    rw [Bool.eq_iff_iff, List.isEmpty_iff, decide_eq_true_eq, List.drop_eq_nil_iff]
    omega
  rw [he]
  cases x.soft <;> by_cases h : i + 1 = ls.length <;> simp [h]
theorem pref_step {p t : List UInt8} {z j : Nat} {x y : UInt8} (hp : p[j]? = some y) (ht : t[z + j]? = some x) : (p.take (j + 1)).isPrefixOf (t.drop z) = ((p.take j).isPrefixOf (t.drop z) && (x == y)) := by
  have hpj := (List.getElem?_eq_some_iff.1 hp).1
  have htj := (List.getElem?_eq_some_iff.1 ht).1
  have h1 : p.take (j + 1) = p.take j ++ [y] := by rw [List.take_add_one, hp]; rfl
  have h2 : (t.drop z).take (j + 1) = (t.drop z).take j ++ [x] := by rw [List.take_add_one, List.getElem?_drop, ht]; rfl
  have hl1 : (p.take j).length = j := by rw [List.length_take]; omega
  have hl2 : (p.take (j + 1)).length = j + 1 := by rw [List.length_take]; omega
  rw [Bool.eq_iff_iff, Bool.and_eq_true, beq_iff_eq, List.isPrefixOf_iff_prefix, List.isPrefixOf_iff_prefix, List.prefix_iff_eq_take, List.prefix_iff_eq_take, hl1, hl2, h1, h2]
  constructor
  · intro h
    obtain ⟨h3, h4⟩ := List.append_inj' h rfl
    cases h4
    exact ⟨h3, rfl⟩
  · rintro ⟨h3, rfl⟩
    rw [← h3]
theorem pref_none {p t : List UInt8} {z : Nat} : (p.take 0).isPrefixOf (t.drop z) = true := by rw [List.take_zero]; rfl
theorem hits_here {p t : List UInt8} {z : Nat} (hp : p ≠ []) (hz : z < t.length) : hits p z 0 (t.drop z) = if p.isPrefixOf (t.drop z) then z :: hits p (z + p.length) 0 (t.drop (z + p.length)) else hits p (z + 1) 0 (t.drop (z + 1)) := by
  split
  · rename_i h
    rw [hits_yes hp h, List.drop_drop]
  · rename_i h
    rw [List.drop_eq_getElem_cons hz] at h ⊢
    exact hits_no ((Bool.not_eq_true _).mp h)
theorem pl_getD {T : List Bp} {k : Nat} {x : Int × Int} (h : (T.map Bp.pl)[k]? = some x) : x.1 = (T.getD k default).line ∧ x.2 = (T.getD k default).col := by
  rw [List.getElem?_map] at h
  cases hk : T[k]? with
  | none => rw [hk] at h; cases h
  | some y =>
    rw [hk] at h
    cases h
    rw [List.getD_eq_getElem?_getD, hk]
    exact ⟨rfl, rfl⟩
theorem lowB_get {fold : Bool} {T : List Bp} {k : Nat} {x : UInt8} (h : (T.map Bp.b)[k]? = some x) : (lowB fold T)[k]? = some (low fold x) := by
  unfold lowB
  rw [List.getElem?_map] at h ⊢
  cases hk : T[k]? with
  | none => rw [hk] at h; cases h
  | some y => rw [hk] at h; cases h; rfl
theorem u8_beq (a b : UInt8) : (((a.toNat : Int)) == (b.toNat : Int)) = (a == b) := by
  rw [Bool.eq_iff_iff, beq_iff_eq, beq_iff_eq]
  constructor
  · intro h; exact UInt8.toNat_inj.1 (by omega)
  · rintro rfl; rfl
end Go.Proofs.YtfdolhppbimbmaaDoor
