/- How much a curve bends at the points of a graph: what the reference's l05Bends makes. No conditions. -/
import Derived.Test.YtlnfbadoglllbaaBenF
namespace Go.Ab
open Go.Proofs
attribute [local irreducible] WS RS Done OpJ Then InBlock Round Ret Env.sub FnH

end Go.Ab
