/- Contracts of the stores: entriesValid, StoreValid in both packages. -/
import Derived.Test.YtjopbffjemhgdaaQBase
import Derived.Deep.QuietTactic
import Derived.BigQuiet
namespace Go.Proofs.Ytjopbffjemhgdaa
open Go.RowKit




end Go.Proofs.Ytjopbffjemhgdaa
