/- Plain laws on paths and circles as graphs, and on what products with circles ask of a graph. No program in sight. -/
import Derived.Test.YtjocpjjimhefjaaGreatM8
import Derived.Test.YtjocpjjimhefjaaGreatM5
import Derived.Test.YtjocpjjimhefjaaGreatM17
namespace Go.Proofs.YtjocpjjimhefjaaGreatM
open Go.RowKit Go.Proofs.YtjocpjjimhefjaaGreatW.PrintWords Go.Proofs.YtjocpjjimhefjaaGreatW.PrintLast Go.Proofs.YtjocpjjimhefjaaGreatW.PrintMore
set_option linter.unusedVariables false
set_option linter.unusedSimpArgs false
end Go.Proofs.YtjocpjjimhefjaaGreatM
