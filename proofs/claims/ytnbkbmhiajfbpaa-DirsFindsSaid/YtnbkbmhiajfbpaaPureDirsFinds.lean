/- Dirs: where a name stands, the first empty place and all names: the program's answer is the reference's. -/
import Derived.Test.YtnbkbmhiajfbpaaFken
namespace Go.Proofs.Ytnbkbmhiajfbpaa.Pure
open Go.RowKit Go.Proofs.Ytnbkbmhiajfbpaa.XDirsFinds
theorem DirsFinds : bollardlaw12_DirsFinds.Pure := fun l0 a1 _ _ h _ => Fk.DirsFinds_pure l0 a1 h
end Go.Proofs.Ytnbkbmhiajfbpaa.Pure
