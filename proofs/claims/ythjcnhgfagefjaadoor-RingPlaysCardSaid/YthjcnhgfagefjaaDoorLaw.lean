/- What the row's list gives: the two tables. From a walk of a statement's function to the given row and card: what is alike for all of them. No condition. -/
import Derived.Test.YthjcnhgfagefjaaDoorWidth
import Derived.Lib.LaidTab
import Derived.Test.YthjcnhgfagefjaaDoorCards
import Derived.Test.YthjcnhgfagefjaaDoorTie
import Derived.ProofKit
import Derived.OpenShut
import Derived.Carry
import Derived.Deep.DeepHandedRow
namespace Go.Proofs.YthjcnhgfagefjaaDoor
set_option linter.unusedVariables false
set_option linter.unusedSimpArgs false
open Go.RowKit

/-- An array of pairs that reads as a table of pairs holds them, cell for cell. -/
theorem cells_of_pairs {H : Type} {enc : TypeId × Value → H} {P : Program} {w : World} {base : Nat} {sp : Nat → Bool} {held : Bool} {fuel : Nat} {t e e2 : TypeId} {n : Nat} {k : IntKind} {cs : List Value} {zs : List (Int × Int)} {p : List MemPlace}
    (ht : P.underlying t = some (.array n e)) (he : P.underlying e = some (.array 2 e2)) (he2 : P.underlying e2 = some (.int k)) (hce2 : P.cellsOf e2 = 1) (hce : P.cellsOf e = 2) (hct : P.cellsOf t = n * 2)
    (h : DataW.trod enc P w base sp held fuel t cs = some (.agg (zs.map fun z => .agg [.lit (.int k z.1), .lit (.int k z.2)]), p)) : ∀ (i : Nat) z, zs[i]? = some z → cs[i * 2]? = some (.int k z.1) ∧ cs[i * 2 + 1]? = some (.int k z.2) := by
  cases fuel with
  | zero => simp [DataW.trod] at h
  | succ fuel =>
    simp only [DataW.trod, ht, hce, hct] at h
    split at h
    · rename_i hl
      obtain ⟨xs, hm, hx⟩ := Option.map_eq_some_iff.1 h
      have hxs : xs.map (·.1) = zs.map fun z => (DataW.agg [.lit (.int k z.1), .lit (.int k z.2)] : DataW H) := by
        have := congrArg Prod.fst hx
        simpa using this
      have hxl : xs.length = n := by simpa using Lib.mapM_length hm
      intro i z hz
      have hi : i < n := by
        have h1 := congrArg List.length hxs
        simp at h1
        have h2 := (List.getElem?_eq_some_iff.1 hz).1
        omega
      obtain ⟨b, hb, hf⟩ := Lib.mapM_at hm i i (by simp [hi])
      have h2 : (xs.map (·.1))[i]? = some b.1 := by simp [hb]
      rw [hxs] at h2
      simp only [List.getElem?_map, hz, Option.map_some, Option.some.injEq] at h2
      obtain ⟨b1, b2⟩ := b
      subst h2
      have hc := Lib.cells_of_tab (zs := [z.1, z.2]) he he2 hce2 hce hf
      have g0 := congrArg (·[0]?) hc
      have g1 := congrArg (·[1]?) hc
      simp [List.getElem?_take, List.getElem?_drop] at g0 g1
      exact ⟨by simpa using g0, by simpa using g1⟩
    · cases h

theorem tabs_of_laid {W : World} (h : laidMet Tryd.prog Rows.ringPlaysRow.laid W) : Tabs W := by
  obtain ⟨ps, ⟨g1, t1, cs1, f1, p1, q1, hg1, ht1, hv1, hd1, ⟨g2, t2, cs2, f2, p2, q2, hg2, ht2, hv2, hd2, _, _⟩, _⟩, _⟩ := h
  have n1 : Tryd.prog.globalNamed (Rows.ringPlaysRow.laid[0]?.map (·.1)).get! = some 0 := by kernel_rfl
  have n2 : Tryd.prog.globalNamed (Rows.ringPlaysRow.laid[1]?.map (·.1)).get! = some 1 := by kernel_rfl
  have e1 : g1 = 0 := Option.some.inj (hg1.symm.trans n1)
  have e2 : g2 = 1 := Option.some.inj (hg2.symm.trans n2)
  subst e1 e2
  have y1 : (Tryd.prog.globals[0]?).map (·.type) = some 115 := by kernel_rfl
  have y2 : (Tryd.prog.globals[1]?).map (·.type) = some 116 := by kernel_rfl
  obtain rfl := Option.some.inj (y1.symm.trans ht1)
  obtain rfl := Option.some.inj (y2.symm.trans ht2)
  have k1 := cells_of_pairs (n := 18) (zs := marksL) Tryd.underlying115 Tryd.underlying114 Tryd.underlying21 (by kernel_rfl) (by kernel_rfl) (by kernel_rfl) hd1
  have k2 := cells_of_pairs (n := 19) (zs := wideL) Tryd.underlying116 Tryd.underlying114 Tryd.underlying21 (by kernel_rfl) (by kernel_rfl) (by kernel_rfl) hd2
  refine ⟨fun i hi => ?_, fun i hi => ?_⟩
  · have hz : marksL[i]? = some (marksT i) := by
      unfold marksT
      rw [List.getD_eq_getElem?_getD, List.getElem?_eq_getElem (show i < marksL.length from hi)]; rfl
    obtain ⟨c1, c2⟩ := k1 i _ hz
    exact ⟨(World.var?_cell hg1 hv1 (i * 2)).trans (by simpa using c1), (World.var?_cell hg1 hv1 (i * 2 + 1)).trans (by simpa using c2)⟩
  · have hz : wideL[i]? = some (wideT i) := by
      unfold wideT
      rw [List.getD_eq_getElem?_getD, List.getElem?_eq_getElem (show i < wideL.length from hi)]; rfl
    obtain ⟨c1, c2⟩ := k2 i _ hz
    exact ⟨(World.var?_cell hg2 hv2 (i * 2)).trans (by simpa using c1), (World.var?_cell hg2 hv2 (i * 2 + 1)).trans (by simpa using c2)⟩
end Go.Proofs.YthjcnhgfagefjaaDoor

namespace Go.Proofs.YthjcnhgfagefjaaDoor
set_option linter.unusedVariables false
set_option linter.unusedSimpArgs false
open Go.ChangeShapes Go.WideShapes Go.ChangeAt Go.RowKit

theorem laidOut : laidOutB Tryd.prog = true := by kernel_rfl
theorem ownK : ownKnob Tryd.prog.godebug = none := by kernel_rfl

section
variable {H : Type} {enc : TypeId × Value → H} {P : Program}
/-- Arguments read as they did where all old blocks are as they were. -/
theorem args_stay (hl : laidOutB P = true) {W W' : World} {sp : Nat → Bool} : ∀ {ts : List TypeId} {vs : List Value} {ds : List (DataW H)} {ps : List MemPlace}, (∀ t ∈ ts, P.readableRec t = true ∧ t < P.types.size) →
    DataW.TrodAll enc P W 0 (fun _ => true) true ts vs ds ps → (∀ p ∈ ps, W.sameAt W' p) → (∀ p ∈ ps, sp p.block = true) → DataW.TrodAll enc P W' 0 sp true ts vs ds ps
  | [], _, _, _, _, h, _, _ => by obtain ⟨rfl, rfl, rfl⟩ := trodAll_nil h; exact trodAll_mk0
  | t :: ts, _, _, _, hr, h, hs, hp => by
    obtain ⟨v, vs1, d, ds1, a, b, rfl, rfl, rfl, h1, h2⟩ := trodAll_cons h
    obtain ⟨r1, r2⟩ := hr t (List.mem_cons_self ..)
    exact trodAll_cons_mk (WideElems.Trod_stays hl r1 r2 h1 (fun p hp => hs p (List.mem_append_left _ hp)) (fun p hp' => hp p (List.mem_append_left _ hp')))
      (args_stay hl (fun t ht => hr t (List.mem_cons_of_mem _ ht)) h2 (fun p hp => hs p (List.mem_append_right _ hp)) (fun p hp' => hp p (List.mem_append_right _ hp')))
/-- The call returned true, and all old blocks are as they were: what the row asks. -/
theorem law_post {f : Func} {s : ChangeSpec} {W W' : World} {args : Array Value} {ds gs : List (DataW H)} {before : List MemPlace} {tb : TypeId} (hl : laidOutB P = true) (hr : ∀ t ∈ f.params.toList, P.readableRec t = true ∧ t < P.types.size)
    (hW : DataW.Whole enc P f.params.toList s.vars false W args.toList ds gs before) (hv : s.vars = []) (hfn : ∀ (ds : List (DataW H)), ds.length = f.params.toList.length → s.fn H ds = { results := [.lit (.bool true)], args := ds }) (hres : f.resultTypes = #[tb]) (hb : P.underlying tb = some .bool) (hs : Sees W W') :
    s.post enc P f false true false false W args (.bool true) W' := by
  have hlt : ∀ p ∈ before, p.block < W.heap.size := fun p hp => hW.lt p hp
  have hW0 := hW
  obtain ⟨p, q, hA, hV, hps, hz, hn⟩ := hW0
  have hV0 : DataW.TrodVars enc P W (fun _ => true) [] gs q := hv ▸ hV
  obtain ⟨rfl, rfl⟩ := trodVars_none hV0
  rw [List.append_nil] at hps
  subst hps
  have hlen : ∀ {ts : List TypeId} {vs : List Value} {ds : List (DataW H)} {ps : List MemPlace}, DataW.TrodAll enc P W 0 (fun _ => true) true ts vs ds ps → ds.length = ts.length := by
    intro ts
    induction ts with
    | nil => intro vs ds ps h; obtain ⟨rfl, rfl, rfl⟩ := trodAll_nil h; rfl
    | cons t ts ih => intro vs ds ps h; obtain ⟨v, vs1, d, ds1, a, b, rfl, rfl, rfl, h1, h2⟩ := trodAll_cons h; simp [ih h2]
  have hf : s.fn H (ds ++ []) = { results := [.lit (.bool true)], args := ds } := by rw [List.append_nil]; exact hfn ds (hlen hA)
  have hargs : ∀ sp : Nat → Bool, (∀ x ∈ before, sp x.block = true) → DataW.TrodAll enc P W' 0 sp true f.params.toList args.toList ds before :=
    fun sp hsp => args_stay hl hr hA (fun x hx => Below.same hs (hlt x hx)) hsp
  have hrt : ∀ (b : Nat) (sp : Nat → Bool) (hd : Bool), DataW.TrodAll enc P W' b sp hd f.resultTypes.toList ((Value.bool true).resultList f.resultTypes.size) [.lit (.bool true)] [] := by
    intro b sp hd
    rw [hres]
    exact trodAll_cons_mk (shut_bool hb _) trodAll_mk0
  have hvs : ∀ sp : Nat → Bool, DataW.TrodVars enc P W' sp s.vars [] [] := by intro sp; rw [hv]; rfl
  refine ⟨ds, [], before, [], before, [], hW, by rw [hf]; exact hrt _ _ _, by rw [hf]; exact hargs _ (fun x hx => by simpa using hlt x hx), by rw [hf]; exact hvs _, World.keptBut_mono (fun x hx => ⟨hx, .inr (.inl hx)⟩) (Below.frame hs (· ∈ before)), fun h => by cases h⟩
end

/-- A world for the witness: the two tables as the program lays them. -/
noncomputable def laidWorld (os : Os) (c : World) : World :=
  { c with heap := (c.heap.modify 0 fun
      | .cells _ t frozen => .cells (marksL.flatMap fun z => [.int .i32 z.1, .int .i32 z.2]).toArray t frozen
      | o => o).modify 1 fun
      | .cells _ t frozen => .cells (wideL.flatMap fun z => [.int .i32 z.1, .int .i32 z.2]).toArray t frozen
      | o => o }
end Go.Proofs.YthjcnhgfagefjaaDoor
