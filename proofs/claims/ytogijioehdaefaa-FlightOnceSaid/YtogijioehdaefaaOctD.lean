
/- Layer 1 (octet): what Join and its reference compute. -/
import Derived.Test.YtogijioehdaefaaOctC
namespace Go.Proofs.Ytogijioehdaefaa.Oct
open Go.RowKit Go.Proofs.Ytogijioehdaefaa.Mem

end Go.Proofs.Ytogijioehdaefaa.Oct
