/- Plain laws on products with circles: a pair of sets as one set, and its steps. No program in sight. -/
import Derived.Test.YtjocpjjimhefjaaGreatM6
namespace Go.Proofs.YtjocpjjimhefjaaGreatM
open Go.RowKit Go.Proofs.YtjocpjjimhefjaaGreatW.PrintWords Go.Proofs.YtjocpjjimhefjaaGreatW.PrintLast Go.Proofs.YtjocpjjimhefjaaGreatW.PrintMore
set_option linter.unusedVariables false
set_option linter.unusedSimpArgs false
end Go.Proofs.YtjocpjjimhefjaaGreatM
