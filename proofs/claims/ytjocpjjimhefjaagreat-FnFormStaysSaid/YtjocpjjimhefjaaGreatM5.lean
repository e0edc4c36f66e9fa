/- Plain laws on polynomials of maps. No program in sight. -/
import Derived.Test.YtjocpjjimhefjaaGreatM2
import Derived.Test.YtjocpjjimhefjaaGreatM4
namespace Go.Proofs.YtjocpjjimhefjaaGreatM
open Go.RowKit Go.Proofs.YtjocpjjimhefjaaGreatW.PrintWords Go.Proofs.YtjocpjjimhefjaaGreatW.PrintLast Go.Proofs.YtjocpjjimhefjaaGreatW.PrintMore
set_option linter.unusedVariables false
set_option linter.unusedSimpArgs false
end Go.Proofs.YtjocpjjimhefjaaGreatM
