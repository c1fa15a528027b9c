/- Runs, made cell by cell; a run that becomes longer in its row (48). No condition. -/
import Derived.Test.YthcndmchlpohpaaGreatDoorMlU
import Derived.Test.YthcndmchlpohpaaGreatDoorMlH
namespace Go.Proofs.YthcndmchlpohpaaGreatDoor
set_option linter.unusedVariables false
set_option linter.unusedSimpArgs false
open Go.RowKit Go.Shelf

/-- One more cell: the last run becomes longer, or there is a new one. -/
def stepR (acc : List Rn) (i : Nat) (c : Cell) : List Rn := match acc.getLast? with
  | some r => if penOf r.c = penOf c then acc.set (acc.length - 1) ⟨r.col, r.wid + 1, r.txt ++ c.txt, r.c⟩ else acc ++ [⟨i, 1, c.txt, c⟩]
  | none => acc ++ [⟨i, 1, c.txt, c⟩]
def wantF (acc : List Rn) (i : Nat) : List Cell → List Rn
  | [] => acc
  | c :: cs => wantF (stepR acc i c) (i + 1) cs
theorem wantF_snoc (c : Cell) : ∀ (cs : List Cell) (acc : List Rn) (i : Nat), wantF acc i (cs ++ [c]) = stepR (wantF acc i cs) (i + cs.length) c
  | [], _, _ => rfl
  | d :: cs, acc, i => by
    show wantF (stepR acc i d) (i + 1) (cs ++ [c]) = stepR (wantF (stepR acc i d) (i + 1) cs) (i + (cs.length + 1)) c
    rw [wantF_snoc c cs, show i + 1 + cs.length = i + (cs.length + 1) by omega]
theorem stepR_same (acc : List Rn) (r : Rn) (i : Nat) (c : Cell) (h : penOf r.c = penOf c) : stepR (acc ++ [r]) i c = acc ++ [⟨r.col, r.wid + 1, r.txt ++ c.txt, r.c⟩] := by
  unfold stepR
  rw [List.getLast?_concat]
  simp only
  rw [if_pos h, List.length_append, List.length_singleton, Nat.add_sub_cancel, List.set_append_right _ _ (Nat.le_refl _), Nat.sub_self]
  rfl
theorem stepR_new (acc : List Rn) (i : Nat) (c : Cell) (h : ∀ r, acc.getLast? = some r → penOf r.c ≠ penOf c) : stepR acc i c = acc ++ [⟨i, 1, c.txt, c⟩] := by
  unfold stepR
  cases hl : acc.getLast? with
  | none => rfl
  | some r => simp only; rw [if_neg (h r hl)]
theorem wantF_run (acc : List Rn) : ∀ (ds : List Cell) (r : Rn) (i : Nat) (rest : List Cell), (∀ d ∈ ds, penOf d = penOf r.c) → wantF (acc ++ [r]) i (ds ++ rest) = wantF (acc ++ [⟨r.col, r.wid + ds.length, r.txt ++ txts ds, r.c⟩]) (i + ds.length) rest
  | [], r, i, rest, _ => by
    have e : r.txt ++ txts [] = r.txt := by simp [txts]
    rw [e]; rfl
  | d :: ds, r, i, rest, h => by
    have hd := h d (List.mem_cons_self ..)
    rw [List.cons_append, wantF, stepR_same acc r i d hd.symm, wantF_run acc ds ⟨r.col, r.wid + 1, r.txt ++ d.txt, r.c⟩ (i + 1) rest (fun x hx => h x (List.mem_cons_of_mem _ hx))]
    simp only [List.length_cons]
    have e1 : r.wid + 1 + ds.length = r.wid + (ds.length + 1) := by omega
    have e2 : i + 1 + ds.length = i + (ds.length + 1) := by omega
    have e3 : r.txt ++ d.txt ++ txts ds = r.txt ++ txts (d :: ds) := by unfold txts; rw [List.flatMap_cons, List.append_assoc]
    rw [e1, e2, e3]
theorem runLen_take (p : List Int) : ∀ cs : List Cell, ∀ d ∈ cs.take (runLen p cs), penOf d = p
  | [], d, h => by cases h
  | c :: cs, d, h => by
    unfold runLen at h
    split at h
    · rename_i e
      rw [List.take_succ_cons] at h
      rcases List.mem_cons.1 h with rfl | h
      · exact e
      · exact runLen_take p cs d h
    · cases h
theorem runLen_next (p : List Int) : ∀ cs : List Cell, ∀ d, (cs.drop (runLen p cs)).head? = some d → penOf d ≠ p
  | [], d, h => by simp at h
  | c :: cs, d, h => by
    unfold runLen at h
    split at h
    · rw [List.drop_succ_cons] at h
      exact runLen_next p cs d h
    · rename_i e
      have : c = d := by simpa using h
      rw [← this]; exact e
theorem wantF_runs : ∀ (f : Nat) (acc : List Rn) (i : Nat) (us : List Cell), us.length ≤ f → (∀ r c, acc.getLast? = some r → us.head? = some c → penOf r.c ≠ penOf c) → wantF acc i us = acc ++ runsF f i us
  | 0, acc, i, us, h, _ => by
    have : us = [] := List.eq_nil_of_length_eq_zero (by omega)
    subst this
    simp [wantF, runsF]
  | f + 1, acc, i, [], _, _ => by simp [wantF, runsF]
  | f + 1, acc, i, c :: cs, h, hl => by
    have hlen : cs.length ≤ f := by simpa using h
    obtain ⟨m, hm⟩ : ∃ m, m = runLen (penOf c) cs := ⟨_, rfl⟩
    have hml : m ≤ cs.length := by rw [hm]; exact runLen_le _ _
    have e1 : stepR acc i c = acc ++ [⟨i, 1, c.txt, c⟩] := stepR_new acc i c (fun r hr => hl r c hr rfl)
    have e2 : cs = cs.take m ++ cs.drop m := (List.take_append_drop m cs).symm
    have e3 : (cs.take m).length = m := by rw [List.length_take, Nat.min_eq_left hml]
    have e4 : c.txt ++ txts (cs.take m) = txts ((c :: cs).take (m + 1)) := by unfold txts; rw [List.take_succ_cons, List.flatMap_cons]
    have e5 : runsF (f + 1) i (c :: cs) = ⟨i, m + 1, txts ((c :: cs).take (m + 1)), c⟩ :: runsF f (i + (m + 1)) (cs.drop m) := by rw [hm]; rfl
    rw [wantF, e1]
    conv => lhs; rw [e2]
    rw [wantF_run acc (cs.take m) ⟨i, 1, c.txt, c⟩ (i + 1) (cs.drop m) (fun d hd => by rw [hm] at hd; exact runLen_take _ _ d hd)]
    simp only [e3, e4]
    rw [wantF_runs f _ _ (cs.drop m) (by rw [List.length_drop]; omega) (fun r d hr hd => by
      rw [List.getLast?_concat] at hr
      obtain rfl := Option.some.inj hr
      rw [hm] at hd
      exact fun e => runLen_next _ _ d hd e.symm), e5, show 1 + m = m + 1 by omega, show i + 1 + m = i + (m + 1) by omega, List.append_assoc]
    rfl
theorem wantF_all (cs : List Cell) : wantF [] 0 (cs.take (usedN cs)) = runsL cs := by
  have hl : (cs.take (usedN cs)).length ≤ usedN cs := by rw [List.length_take]; omega
  have := wantF_runs (usedN cs) [] 0 (cs.take (usedN cs)) hl (fun r c h => by simp at h)
  rwa [List.nil_append] at this
theorem want_step {cs : List Cell} {k : Nat} {c : Cell} (h : cs[k]? = some c) : wantF [] 0 (cs.take (k + 1)) = stepR (wantF [] 0 (cs.take k)) k c := by
  have hk := (List.getElem?_eq_some_iff.1 h).1
  rw [List.take_add_one, h, Option.toList_some, wantF_snoc, List.length_take, Nat.min_eq_left (by omega), Nat.zero_add]
theorem stepR_len (acc : List Rn) (i : Nat) (c : Cell) : (stepR acc i c).length ≤ acc.length + 1 := by
  unfold stepR
  split
  · split
    · rw [List.length_set]; omega
    · simp
  · simp
theorem wantF_len : ∀ (cs : List Cell) (acc : List Rn) (i : Nat), (wantF acc i cs).length ≤ acc.length + cs.length
  | [], _, _ => Nat.le_refl _
  | c :: cs, acc, i => by
    have h1 := wantF_len cs (stepR acc i c) (i + 1)
    have h2 := stepR_len acc i c
    rw [wantF, List.length_cons]; omega
/-- One word of a run in a row of one's own. -/
theorem rn_setw {F : Nat → Prop} {w : World} {a : Option Addr} {n c i k : Nat} {xs : List Rn} {r r' : Rn} {u : Value} (h : rnEl.Own F w (.slice a n c) xs) (hx : xs[i]? = some r) (hk : k < 14) (hr : r'.vals = r.vals.set k u) :
    ∃ b, a = some ⟨b, 0, none⟩ ∧ F b ∧ b < w.heap.size ∧ RnAt w b (i * 14) r ∧ (∀ j, w.frozen? ⟨b, j, none⟩ = false) ∧ rnEl.Own F (w.setCell ⟨b, i * 14 + k, none⟩ u) (.slice a n c) (xs.set i r') := by
  obtain ⟨b, cap, cur, Fx, Fr, vs, e, hcap, hFb, hFx, hFr, hg, hown, hvl, hat, hnew⟩ := h.focus hx
  cases e
  have hvs : vs = r.vals := hown
  subst hvs
  have hat2 : RnAt w b (i * 14) r := fun j x hj => by
    rw [cell_of_row _ _ _ _ _ _ hg]
    exact hat j x hj
  refine ⟨b, rfl, hFb, (Array.getElem?_eq_some_iff.1 hg).1, hat2, fun j => frozen_of_row _ _ _ _ _ hg, ?_⟩
  have hlen : r.vals.length = 14 := rfl
  have ht := El.turned_within (cur' := cur.setIfInBounds (i * 14 + k) u) (u := u) hat (by rw [hlen]; exact hk) rfl
  have q := hnew (fun c => c = b) (w.setCell ⟨b, i * 14 + k, none⟩ u) (cur.setIfInBounds (i * 14 + k) u) (fun _ => False) (r.vals.set k u) r' (heap_setCell_same _ _ _ _ _ _ hg) ht (Keeps.setCell (F := fun c => c = b) (Keeps.refl _ w) (p := ⟨b, i * 14 + k, none⟩) (fun _ => rfl) u) (fun c hc e => (hFr c hc).2.1 e) hr.symm (fun _ h => h.elim)
  exact q.mono fun c _ hc => by
    rcases hc with rfl | hc | hc
    · exact hFb
    · exact (hFr c hc).1
    · exact hc.elim
/-- The last run becomes longer. -/
theorem rn_longer {F : Nat → Prop} {w : World} {a : Option Addr} {n c i : Nat} {xs : List Rn} {r : Rn} (h : rnEl.Own F w (.slice a n c) xs) (hx : xs[i]? = some r) (wid : Nat) (txt : List UInt8) :
    ∃ b, a = some ⟨b, 0, none⟩ ∧ F b ∧ b < w.heap.size ∧ RnAt w b (i * 14) r ∧ (∀ j, w.frozen? ⟨b, j, none⟩ = false) ∧ rnEl.Own F ((w.setCell ⟨b, i * 14 + 1, none⟩ (.int .i64 (wid : Int))).setCell ⟨b, i * 14 + 2, none⟩ (.string (strL txt))) (.slice a n c) (xs.set i ⟨r.col, wid, txt, r.c⟩) := by
  obtain ⟨b, rfl, h1, h2, h3, h4, h5⟩ := rn_setw (r' := ⟨r.col, wid, r.txt, r.c⟩) (u := .int .i64 (wid : Int)) (k := 1) h hx (by omega) rfl
  have hi := (List.getElem?_eq_some_iff.1 hx).1
  obtain ⟨b', e, k1, k2, k3, k4, k5⟩ := rn_setw (i := i) (r := ⟨r.col, wid, r.txt, r.c⟩) (r' := ⟨r.col, wid, txt, r.c⟩) (u := .string (strL txt)) (k := 2) h5 (by rw [List.getElem?_set]; simp [hi]) (by omega) rfl
  cases e
  rw [List.set_set] at k5
  exact ⟨b, rfl, h1, h2, h3, h4, k5⟩
theorem run_loadRnPenP {W : World} {b p : Nat} {r : Rn} (h : RnAt W b p r) : (Instr.loadAt 40 (.pointer (some ⟨b, p + 3, none⟩))).run Tryz.prog W = .ok r.c.pen W :=
  run_load_agg 40 b (p + 3) r.c.pvals pen_isAgg pen_sizeOf fun j x hx => by
    have := h (3 + j) x (by rw [show r.vals = [.int .i64 (r.col : Int), .int .i64 (r.wid : Int), .string (strL r.txt)] ++ r.c.pvals from rfl, List.getElem?_append_right (by simp)]; simpa using hx)
    rw [Nat.add_assoc]; exact this
theorem rd_block {α : Type} {E : El α} {F : Nat → Prop} {W : World} {g : Nat} {cs : Array Value} {t : TypeId} {xs : List α} (hg : W.heap[g]? = some (.cells cs t (0, 0))) (hr : E.relIn F W cs.toList xs) (hF : F g) {n : Nat} (hn : n = xs.length) : E.Rd F W (.slice (some ⟨g, 0, none⟩) n n) xs := by
  subst hn
  refine ⟨_, _, rfl, Nat.le_refl _, fun _ => ⟨g, 0, rfl, hF, fun i x hx => ⟨_, hr.2 i x hx, fun j u hu => ?_⟩⟩⟩
  rw [List.getElem?_take] at hu
  split at hu
  · rw [List.getElem?_drop] at hu
    rw [Nat.zero_add, cell_of_row _ _ _ _ _ _ hg]
    simpa using hu
  · cases hu
theorem relIn_one {α : Type} {E : El α} {F : Nat → Prop} {W : World} {vs : List Value} {x : α} (h : E.rel F W vs x) : E.relIn F W vs [x] := by
  have hl := E.len h
  refine ⟨by rw [hl]; simp, fun i y hy => ?_⟩
  cases i with
  | zero =>
    cases hy
    rw [Nat.zero_mul, List.drop_zero, List.take_of_length_le (by omega)]
    exact h
  | succ i => cases hy
theorem ln_rel {F : Nat → Prop} {W : World} {v : Value} {cs : List Cell} (h : cellEl.Rd F W v cs) (b : Bool) : lnEl.rel F W [v, .bool b] ⟨cs, b⟩ := ⟨v, rfl, h⟩
/-- A row of one line. -/
theorem one_line {W : World} {v : Value} {cs : List Cell} {so : Bool} {F : Nat → Prop} (h : cellEl.Rd F W v cs) : lnEl.Rd (fun _ => True) (W.alloc (.cells #[v, .bool so] 27)) (.slice (some ⟨W.heap.size, 0, none⟩) 1 1) [⟨cs, so⟩] :=
  rd_block (heap_alloc_new W _) (relIn_one (ln_rel (h.sees ((Sees.refl W).alloc _)).all so)) trivial rfl
end Go.Proofs.YthcndmchlpohpaaGreatDoor
