/- GdsNext is true of every row of bytes. -/
import Derived.Test.YtmldbabahiapdaaQPn
import Derived.Test.YtmldbabahiapdaaQx9
namespace Go.Proofs.Ytmldbabahiapdaa.Pure
open Go.RowKit Go.Proofs.Ytmldbabahiapdaa.Q Go.Proofs.YtmldbabahiapdaaW.PrintWords Go.Proofs.YtmldbabahiapdaaW.PrintLast

theorem GdsNext : trothlaw04_GdsNext.Pure := fun l0 _ _ hb => next_pure l0 hb

end Go.Proofs.Ytmldbabahiapdaa.Pure
