/- The functions of this seat that were walked by hand: gds.Next, gds.Write. -/
import Derived.Test.YtmldbabahiapdaaQNext
import Derived.Test.YtmldbabahiapdaaQWrite
namespace Go.Proofs.Ytmldbabahiapdaa.Q
end Go.Proofs.Ytmldbabahiapdaa.Q
