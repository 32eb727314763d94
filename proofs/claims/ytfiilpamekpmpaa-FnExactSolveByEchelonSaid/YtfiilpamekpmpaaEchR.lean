/-
  DERIVED. EchelonOf, both.
-/
import Derived.Test.YtfiilpamekpmpaaEchQ
import Derived.Test.YtfiilpamekpmpaaEchW
namespace Go.Proofs.Ytfiilpamekpmpaa
end Go.Proofs.Ytfiilpamekpmpaa
