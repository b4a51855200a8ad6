/- GdsReads is true of every row of bytes. -/
import Derived.Test.YtmldbabahiapdaaQPr
import Derived.Test.YtmldbabahiapdaaQx12
namespace Go.Proofs.Ytmldbabahiapdaa.Pure
open Go.RowKit Go.Proofs.Ytmldbabahiapdaa.Q Go.Proofs.YtmldbabahiapdaaW.PrintWords Go.Proofs.YtmldbabahiapdaaW.PrintLast

theorem GdsReads : trothlaw04_GdsReads.Pure := fun l0 _ _ hb => reads_pure l0 hb

end Go.Proofs.Ytmldbabahiapdaa.Pure
