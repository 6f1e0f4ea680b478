/- The law CnfLives answers true. -/
import Derived.Test.YtggnnnddnppcpaaStatCnfLives
namespace Go.Proofs.Ytggnnnddnppcpaa.Pure
open Go.Proofs.Ytggnnnddnppcpaa.PCnfLives
theorem CnfLives : PCnfLives.Stmt := rfl
end Go.Proofs.Ytggnnnddnppcpaa.Pure
