
/- Layer 2 (crc): what a nil table answers. -/
import Derived.Test.YtogijioehdaefaaCrc
namespace Go.Proofs.Ytogijioehdaefaa.Crc
open Go.RowKit Go.Proofs.Ytogijioehdaefaa.Mem Go.Proofs.Ytogijioehdaefaa.Oct Go.Proofs.Ytogijioehdaefaa.CrcM

end Go.Proofs.Ytogijioehdaefaa.Crc
