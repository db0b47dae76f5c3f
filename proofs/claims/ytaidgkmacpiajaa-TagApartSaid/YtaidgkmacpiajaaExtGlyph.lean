/- glyph.First in the printed texts' form. -/
import Derived.Test.YtaidgkmacpiajaaGlyph
set_option linter.unusedVariables false
namespace Go.Proofs.Ytaidgkmacpiajaa.Ext
open Go.RowKit Go.Proofs.Ytaidgkmacpiajaa.Plain

def glyph_First.f (a0 : ByteArray) : Option (Int × Int × Int) := some (gf a0)
theorem glyph_First.calls (a0 : ByteArray) (r1 r2 r3 : Int) (w : World) (h : glyph_First.f a0 = some (r1, r2, r3)) :
    Calls Try.prog 37 #[.string a0] w fun e w' => e = .returned (.tuple #[.int .i64 r1, .int .i64 r2, .int .i64 r3]) ∧ Below w.heap.size w w' := by
  have e := Option.some.inj h
  have := Glyph.First_any a0 w
  rw [e] at this
  exact this

end Go.Proofs.Ytaidgkmacpiajaa.Ext
