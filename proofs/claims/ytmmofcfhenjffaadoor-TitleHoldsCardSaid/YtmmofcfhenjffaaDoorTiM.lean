/- title.Parse and title.Text with named answers (26). No condition. -/
import Derived.Test.YtmmofcfhenjffaaDoorTiL
namespace Go.Proofs.YtmmofcfhenjffaaDoor
set_option linter.unusedVariables false
set_option linter.unusedSimpArgs false
open Go.RowKit
theorem parse_at (s : ByteArray) (k : Int) (I T : ByteArray) (er : Int) (hs : s.size ≤ 1000000) (h : parseT s.data.toList = (k, I.data.toList, T.data.toList, er)) (W : World) (hw : Std W) :
    Calls Tryd.prog 21 #[.string s] W fun e w' => e = .returned (.tuple #[cmd k I T, .int .i64 er]) ∧ Sees W w' := by
  have hc := parse_any s hs W hw
  rw [h] at hc
  exact hc
theorem ttext_at (k : Int) (id text want : ByteArray) (no : Int) (h1 : id.size ≤ 1000000) (h2 : text.size ≤ 1000000) (h : textV k id text = .tuple #[.string want, .int .i64 no]) (W : World) (hw : Std W) :
    Calls Tryd.prog 19 #[cmd k id text] W fun e w' => e = .returned (.tuple #[.string want, .int .i64 no]) ∧ Sees W w' := by
  have hc := ttext_any k id text h1 h2 W hw
  rw [h] at hc
  exact hc
end Go.Proofs.YtmmofcfhenjffaaDoor
