/- GdsTaken is true of every row of bytes. -/
import Derived.Test.YtmldbabahiapdaaQPt
import Derived.Test.YtmldbabahiapdaaQTk
namespace Go.Proofs.Ytmldbabahiapdaa.Pure
open Go.RowKit Go.Proofs.Ytmldbabahiapdaa.Q Go.Proofs.YtmldbabahiapdaaW.PrintWords Go.Proofs.YtmldbabahiapdaaW.PrintLast

theorem GdsTaken : trothlaw04_GdsTaken.Pure := fun l0 _ _ hb => taken_pure l0 hb

end Go.Proofs.Ytmldbabahiapdaa.Pure
