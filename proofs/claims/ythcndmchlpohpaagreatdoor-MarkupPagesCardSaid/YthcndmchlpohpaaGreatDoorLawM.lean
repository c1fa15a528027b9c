/- What the row's list gives: the library's variables and the program's tables (48). From a walk of a statement's function to the given row and card: what is alike for all of them. No condition. -/
import Derived.Test.YthcndmchlpohpaaGreatDoorMkF
import Derived.Lib.LaidU8
import Derived.Lib.LaidTab
import Derived.Test.YthcndmchlpohpaaGreatDoorCards
import Derived.Test.YthcndmchlpohpaaGreatDoorTie
import Derived.ProofKit
import Derived.OpenShut
import Derived.Carry
import Derived.Deep.DeepHandedRow
namespace Go.Proofs.YthcndmchlpohpaaGreatDoor
set_option linter.unusedVariables false
set_option linter.unusedSimpArgs false
open Go.RowKit

/-- An array of pairs that reads as a table of pairs holds them, cell for cell. -/
theorem cells_of_pairs {H : Type} {enc : TypeId × Value → H} {P : Program} {w : World} {base : Nat} {sp : Nat → Bool} {held : Bool} {fuel : Nat} {t e e2 : TypeId} {n : Nat} {k : IntKind} {cs : List Value} {zs : List (Int × Int)} {p : List MemPlace}
    (ht : P.underlying t = some (.array n e)) (he : P.underlying e = some (.array 2 e2)) (he2 : P.underlying e2 = some (.int k)) (hce2 : P.cellsOf e2 = 1) (hce : P.cellsOf e = 2) (hct : P.cellsOf t = n * 2)
    (h : DataW.trod enc P w base sp held fuel t cs = some (.agg (zs.map fun z => .agg [.lit (.int k z.1), .lit (.int k z.2)]), p)) : ∀ (i : Nat) z, zs[i]? = some z → cs[i * 2]? = some (.int k z.1) ∧ cs[i * 2 + 1]? = some (.int k z.2) := by
  cases fuel with
  | zero => simp [DataW.trod] at h
  | succ fuel =>
    simp only [DataW.trod, ht, hce, hct] at h
    split at h
    · rename_i hl
      obtain ⟨xs, hm, hx⟩ := Option.map_eq_some_iff.1 h
      have hxs : xs.map (·.1) = zs.map fun z => (DataW.agg [.lit (.int k z.1), .lit (.int k z.2)] : DataW H) := by
        have := congrArg Prod.fst hx
        simpa using this
      have hxl : xs.length = n := by simpa using Lib.mapM_length hm
      intro i z hz
      have hi : i < n := by
        have h1 := congrArg List.length hxs
        simp at h1
        have h2 := (List.getElem?_eq_some_iff.1 hz).1
        omega
      obtain ⟨b, hb, hf⟩ := Lib.mapM_at hm i i (by simp [hi])
      have h2 : (xs.map (·.1))[i]? = some b.1 := by simp [hb]
      rw [hxs] at h2
      simp only [List.getElem?_map, hz, Option.map_some, Option.some.injEq] at h2
      obtain ⟨b1, b2⟩ := b
      subst h2
      have hc := Lib.cells_of_tab (zs := [z.1, z.2]) he he2 hce2 hce hf
      have g0 := congrArg (·[0]?) hc
      have g1 := congrArg (·[1]?) hc
      simp [List.getElem?_take, List.getElem?_drop] at g0 g1
      exact ⟨by simpa using g0, by simpa using g1⟩
    · cases h

open Go.Lib Go.Shelf
theorem reads_at {W : World} {l : List (String × DataW Unit)} (h : laidMet Tryz.prog l W) (i : Nat) {n : String} {d : DataW Unit} (hi : l[i]? = some (n, d)) : Go.Lib.VarReads Tryz.prog W n d := Go.Lib.laidMet.reads h (List.mem_of_getElem? hi)
theorem tabs_of_laid {W : World} (h : laidMet Tryz.prog Rows.markupLongsRow.laid W) : Tabs W := by
  obtain ⟨g1, t1, cs1, f1, p1, hg1, ht1, hv1, hd1⟩ := reads_at h 4 (n := "scrollback/width.marks") (d := Rows.laid_scrollback_width_marks) rfl
  obtain ⟨g2, t2, cs2, f2, p2, hg2, ht2, hv2, hd2⟩ := reads_at h 5 (n := "scrollback/width.wide") (d := Rows.laid_scrollback_width_wide) rfl
  have n1 : Tryz.prog.globalNamed "scrollback/width.marks" = some 0 := by kernel_rfl
  have n2 : Tryz.prog.globalNamed "scrollback/width.wide" = some 1 := by kernel_rfl
  have e1 : g1 = 0 := Option.some.inj (hg1.symm.trans n1)
  have e2 : g2 = 1 := Option.some.inj (hg2.symm.trans n2)
  subst e1 e2
  have y1 : (Tryz.prog.globals[0]?).map (·.type) = some 120 := by kernel_rfl
  have y2 : (Tryz.prog.globals[1]?).map (·.type) = some 121 := by kernel_rfl
  obtain rfl := Option.some.inj (y1.symm.trans ht1)
  obtain rfl := Option.some.inj (y2.symm.trans ht2)
  have k1 := cells_of_pairs (n := 18) (zs := marksL) Tryz.underlying120 Tryz.underlying119 Tryz.underlying21 (by kernel_rfl) (by kernel_rfl) (by kernel_rfl) hd1
  have k2 := cells_of_pairs (n := 19) (zs := wideL) Tryz.underlying121 Tryz.underlying119 Tryz.underlying21 (by kernel_rfl) (by kernel_rfl) (by kernel_rfl) hd2
  refine ⟨fun i hi => ?_, fun i hi => ?_⟩
  · have hz : marksL[i]? = some (marksT i) := by
      unfold marksT
      rw [List.getD_eq_getElem?_getD, List.getElem?_eq_getElem (show i < marksL.length from hi)]; rfl
    obtain ⟨c1, c2⟩ := k1 i _ hz
    exact ⟨(World.var?_cell hg1 hv1 (i * 2)).trans (by simpa using c1), (World.var?_cell hg1 hv1 (i * 2 + 1)).trans (by simpa using c2)⟩
  · have hz : wideL[i]? = some (wideT i) := by
      unfold wideT
      rw [List.getD_eq_getElem?_getD, List.getElem?_eq_getElem (show i < wideL.length from hi)]; rfl
    obtain ⟨c1, c2⟩ := k2 i _ hz
    exact ⟨(World.var?_cell hg2 hv2 (i * 2)).trans (by simpa using c1), (World.var?_cell hg2 hv2 (i * 2 + 1)).trans (by simpa using c2)⟩
end Go.Proofs.YthcndmchlpohpaaGreatDoor

namespace Go.Proofs.YthcndmchlpohpaaGreatDoor
set_option linter.unusedVariables false
set_option linter.unusedSimpArgs false
open Go.ChangeShapes Go.WideShapes Go.ChangeAt Go.RowKit

theorem laidOut : laidOutB Tryz.prog = true := by kernel_rfl
theorem ownK : ownKnob Tryz.prog.godebug = none := by kernel_rfl

section
variable {H : Type} {enc : TypeId × Value → H} {P : Program}
/-- Arguments read as they did where all old blocks are as they were. -/
theorem args_stay (hl : laidOutB P = true) {W W' : World} {sp : Nat → Bool} : ∀ {ts : List TypeId} {vs : List Value} {ds : List (DataW H)} {ps : List MemPlace}, (∀ t ∈ ts, P.readableRec t = true ∧ t < P.types.size) →
    DataW.TrodAll enc P W 0 (fun _ => true) true ts vs ds ps → (∀ p ∈ ps, W.sameAt W' p) → (∀ p ∈ ps, sp p.block = true) → DataW.TrodAll enc P W' 0 sp true ts vs ds ps
  | [], _, _, _, _, h, _, _ => by obtain ⟨rfl, rfl, rfl⟩ := trodAll_nil h; exact trodAll_mk0
  | t :: ts, _, _, _, hr, h, hs, hp => by
    obtain ⟨v, vs1, d, ds1, a, b, rfl, rfl, rfl, h1, h2⟩ := trodAll_cons h
    obtain ⟨r1, r2⟩ := hr t (List.mem_cons_self ..)
    exact trodAll_cons_mk (WideElems.Trod_stays hl r1 r2 h1 (fun p hp => hs p (List.mem_append_left _ hp)) (fun p hp' => hp p (List.mem_append_left _ hp')))
      (args_stay hl (fun t ht => hr t (List.mem_cons_of_mem _ ht)) h2 (fun p hp => hs p (List.mem_append_right _ hp)) (fun p hp' => hp p (List.mem_append_right _ hp')))
/-- The call returned true, and all old blocks are as they were: what the row asks. -/
theorem law_post {f : Func} {s : ChangeSpec} {W W' : World} {args : Array Value} {ds gs : List (DataW H)} {before : List MemPlace} {tb : TypeId} (hl : laidOutB P = true) (hr : ∀ t ∈ f.params.toList, P.readableRec t = true ∧ t < P.types.size)
    (hW : DataW.Whole enc P f.params.toList s.vars false W args.toList ds gs before) (hv : s.vars = []) (hfn : ∀ (ds : List (DataW H)), ds.length = f.params.toList.length → s.fn H ds = { results := [.lit (.bool true)], args := ds }) (hres : f.resultTypes = #[tb]) (hb : P.underlying tb = some .bool) (hs : Sees W W') :
    s.post enc P f false true false false W args (.bool true) W' := by
  have hlt : ∀ p ∈ before, p.block < W.heap.size := fun p hp => hW.lt p hp
  have hW0 := hW
  obtain ⟨p, q, hA, hV, hps, hz, hn⟩ := hW0
  have hV0 : DataW.TrodVars enc P W (fun _ => true) [] gs q := hv ▸ hV
  obtain ⟨rfl, rfl⟩ := trodVars_none hV0
  rw [List.append_nil] at hps
  subst hps
  have hlen : ∀ {ts : List TypeId} {vs : List Value} {ds : List (DataW H)} {ps : List MemPlace}, DataW.TrodAll enc P W 0 (fun _ => true) true ts vs ds ps → ds.length = ts.length := by
    intro ts
    induction ts with
    | nil => intro vs ds ps h; obtain ⟨rfl, rfl, rfl⟩ := trodAll_nil h; rfl
    | cons t ts ih => intro vs ds ps h; obtain ⟨v, vs1, d, ds1, a, b, rfl, rfl, rfl, h1, h2⟩ := trodAll_cons h; simp [ih h2]
  have hf : s.fn H (ds ++ []) = { results := [.lit (.bool true)], args := ds } := by rw [List.append_nil]; exact hfn ds (hlen hA)
  have hargs : ∀ sp : Nat → Bool, (∀ x ∈ before, sp x.block = true) → DataW.TrodAll enc P W' 0 sp true f.params.toList args.toList ds before :=
    fun sp hsp => args_stay hl hr hA (fun x hx => Below.same hs (hlt x hx)) hsp
  have hrt : ∀ (b : Nat) (sp : Nat → Bool) (hd : Bool), DataW.TrodAll enc P W' b sp hd f.resultTypes.toList ((Value.bool true).resultList f.resultTypes.size) [.lit (.bool true)] [] := by
    intro b sp hd
    rw [hres]
    exact trodAll_cons_mk (shut_bool hb _) trodAll_mk0
  have hvs : ∀ sp : Nat → Bool, DataW.TrodVars enc P W' sp s.vars [] [] := by intro sp; rw [hv]; rfl
  refine ⟨ds, [], before, [], before, [], hW, by rw [hf]; exact hrt _ _ _, by rw [hf]; exact hargs _ (fun x hx => by simpa using hlt x hx), by rw [hf]; exact hvs _, World.keptBut_mono (fun x hx => ⟨hx, .inr (.inl hx)⟩) (Below.frame hs (· ∈ before)), fun h => by cases h⟩
end

abbrev synS : ByteArray := { data := #[105, 110, 118, 97, 108, 105, 100, 32, 115, 121, 110, 116, 97, 120] }
abbrev rngS : ByteArray := { data := #[118, 97, 108, 117, 101, 32, 111, 117, 116, 32, 111, 102, 32, 114, 97, 110, 103, 101] }
noncomputable def lowH : Nat := (World.holding Tryz.prog default ⟨#[], #[], []⟩).heap.size
def litOne (x : DataW Unit) : Value := match x with | .lit (.int k n) => Value.int k n | _ => undef
def litVals (d : DataW Unit) : Array Value := match d with
  | .agg l => (l.flatMap fun x => match x with | .agg m => m.map litOne | y => [litOne y]).toArray
  | _ => #[]
/-- A world for the witness. -/
noncomputable def laidWorld (os : Os) : World :=
  let w0 := World.holding Tryz.prog os ⟨#[.cells #[.string synS] 173, .cells #[.string rngS] 173], #[], []⟩
  let put (h : Array Obj) (g : Nat) (vs : Array Value) : Array Obj := h.modify g fun | .cells _ t frozen => .cells vs t frozen | o => o
  { w0 with heap := put (put (put (put (put (put (put (put (put w0.heap 6 #[.iface 171 (.pointer (some ⟨lowH, 0, none⟩))]) 7 #[.iface 171 (.pointer (some ⟨lowH + 1, 0, none⟩))])
      5 (litVals Rows.laid_internal_strconv_uint64pow10)) 8 (litVals Rows.laid_math_bits_deBruijn32tab)) 9 (litVals Rows.laid_math_bits_deBruijn64tab))
      3 (litVals Rows.laid_unicode_utf8_acceptRanges)) 2 (litVals Rows.laid_unicode_utf8_first)) 0 (litVals Rows.laid_scrollback_width_marks)) 1 (litVals Rows.laid_scrollback_width_wide) }
theorem star : "*" ++ "errors.errorString" = "*errors.errorString" := by decide
theorem rowErr (u : TypeId) (h : Tryz.prog.typeName? 3 u = some "*errors.errorString") : u = 171 :=
  typeName_ptr_named (nm := "errors.errorString") (by rw [star]; kernel_rfl) (by kernel_rfl) (by decide) u (by rw [star]; exact h)
theorem u8extra : Go.Proofs.U8Extra Tryz.prog Tryz.lays197_ren := by constructor <;> kernel_rfl
theorem first_eq : Rows.laid_unicode_utf8_first = Go.Lib.firstData := by kernel_rfl
theorem accept_eq : (Rows.laid_unicode_utf8_acceptRanges : DataW Unit) = Go.Lib.acceptData := by kernel_rfl
/-- All that the walks ask. -/
theorem std_of_laid {W : World} (h : laidMet Tryz.prog Rows.markupLongsRow.laid W) (hsh : W.ShapedOpen Tryz.prog) : Sd W := by
  have h3 := h.tail.tail
  have h6 := h3.tail.tail.tail.tail
  have h7 := h6.tail
  have ht := Lib.tabIs_of_head (k := .u64) (zs := Lib.pow10Tab) gTab (t := 152) (by kernel_rfl) Tryz.underlying152 Tryz.underlying126 (by kernel_rfl) (by kernel_rfl) h3
  have gR : Tryz.prog.globalNamed "strconv.ErrRange" = some 7 := by kernel_rfl
  have gS : Tryz.prog.globalNamed "strconv.ErrSyntax" = some 6 := by kernel_rfl
  obtain ⟨a0, s0, hv0, -, -, -⟩ := laid_sentinel h6 gR (ti := 82) (by kernel_rfl) Tryz.underlying82 rowErr Tryz.underlying171 Tryz.underlying173 rfl rfl Tryz.underlying9 (by kernel_rfl) (by kernel_rfl)
  obtain ⟨a1, s1, hv1, -, -, -⟩ := laid_sentinel h7 gS (ti := 82) (by kernel_rfl) Tryz.underlying82 rowErr Tryz.underlying171 Tryz.underlying173 rfl rfl Tryz.underlying9 (by kernel_rfl) (by kernel_rfl)
  have hu := utf8Tabs_of_reads (ρ := Tryz.lays197_ren) { Tryz.lays197 with } u8extra (by rw [← first_eq]; exact reads_at h 8 rfl) (by rw [← accept_eq]; exact reads_at h 3 rfl)
  exact ⟨tabs_of_laid h, Tryz.laysM145.s1_3 W hsh, ⟨_, _, by have q := World.var?_cell gS hv1 0; simpa using q⟩, ⟨_, _, by have q := World.var?_cell gR hv0 0; simpa using q⟩, ht, hu⟩
end Go.Proofs.YthcndmchlpohpaaGreatDoor
