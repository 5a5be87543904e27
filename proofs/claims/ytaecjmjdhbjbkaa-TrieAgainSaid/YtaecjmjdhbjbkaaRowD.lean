/-
  Rows of a prefix and a number, over abstract states.
-/
import Derived.Test.YtaecjmjdhbjbkaaAbsPfx
namespace Go.Proofs.Ytaecjmjdhbjbkaa
/-- A row: a prefix, its number. -/
abbrev Row := Pfx × Int
namespace Ab
def rowD (r : Row) : List Dat := [.sc (.int .u32 r.1.a), .sc (.int .i64 r.1.b), .sc (.int .i64 r.2)]
theorem rowD_len (r : Row) : (rowD r).length = 3 := rfl
def rowsA (l : List Row) : AVal := .d (.sl (l.flatMap rowD) l.length)
end Ab
end Go.Proofs.Ytaecjmjdhbjbkaa
