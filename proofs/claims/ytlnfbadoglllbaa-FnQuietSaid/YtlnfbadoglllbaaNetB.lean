/- Nets: the law's own functions that copy and compare their parts. No conditions. -/
import Derived.Test.YtlnfbadoglllbaaNetA
namespace Go.Ab
open Go.Proofs
attribute [local irreducible] WS RS Done OpJ Then InBlock Round Ret Env.sub FnH
attribute [local irreducible] tab

end Go.Ab
