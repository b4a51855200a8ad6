/- A struct that came in is no heavier than the whole. -/
import Derived.Test.YtmldbabahiapdaaRowsG
namespace Go.Proofs.Ytmldbabahiapdaa.Q
open Go.RowKit
theorem sized_agg {H : Type} {P : Program} {ts : List TypeId} {ds : List (DataW H)} {j : Nat} {t : TypeId} {fs : Array Field} {parts : List (DataW H)} (hsz : (DataW.weightsEach P ts ds).all (· ≤ reachBytes) = true)
    (htj : ts[j]? = some t) (hdj : ds[j]? = some (.agg parts)) (hu : P.underlying t = some (.struct fs)) : (DataW.weightsEach P (fs.toList.map (·.type)) parts).all (· ≤ reachBytes) = true :=
  List.all_eq_true.2 fun n hn => List.all_eq_true.1 hsz n (DataW.weights_mem_each htj hdj n (by simp only [DataW.weights, hu]; exact hn))
end Go.Proofs.Ytmldbabahiapdaa.Q
