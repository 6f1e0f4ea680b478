/- The law ArenaNumbers answers true. -/
import Derived.Test.YtkkkbcjmkmadhaaStatArenaNumbers
namespace Go.Proofs.Ytkkkbcjmkmadhaa.Pure
open Go.Proofs.Ytkkkbcjmkmadhaa.PArenaNumbers
theorem ArenaNumbers : PArenaNumbers.Stmt := rfl
end Go.Proofs.Ytkkkbcjmkmadhaa.Pure
