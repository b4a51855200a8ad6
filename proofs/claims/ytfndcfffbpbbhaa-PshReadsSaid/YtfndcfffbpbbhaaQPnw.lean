/- PshReads: its law and its call. -/
import Derived.Test.YtfndcfffbpbbhaaQPn
import Derived.Test.YtfndcfffbpbbhaaQRd
import Derived.Test.YtfndcfffbpbbhaaQByteRow
namespace Go.Proofs.Ytfndcfffbpbbhaa.Q
open Go.RowKit Go.Mine Go.Proofs.YtfndcfffbpbbhaaW.PrintWords Go.Proofs.YtfndcfffbpbbhaaW.PrintLast Go.Proofs.YtfndcfffbpbbhaaW.PrintMore
set_option linter.unusedVariables false
set_option linter.unusedSimpArgs false
theorem reads_plain {K : Nat} (hK : 400 ≤ K) {l : List Int} (hb : Bytes l) : trothlaw06_PshReads.f K l = some true := by
 unfold trothlaw06_PshReads.f
 by_cases hl : (l.length : Int) > 3000
 ·rw [if_pos hl, alive6, Option.bind_some]
 have hcopy : trothref01_Copy.f l = some l := by
  unfold trothref01_Copy.f
  rw [if_pos (by simp; omega)]
  rfl
 have hR : ∃ r, psh_Read.f l = some r := by
  rcases read_sound hb (by omega) with ⟨a, b, c, d, m, x, y, hr, hc, hd, hx, hy, hf, h⟩ | ⟨e, he, h, _⟩
  ·exact ⟨_, h⟩
  ·exact ⟨_, h⟩
 obtain ⟨r, hr⟩ := hR
 rw [if_neg hl, hcopy, Option.bind_some, hr, Option.bind_some, ref_mread hK hb (by omega), hr, Option.bind_some, alive6, Option.bind_some, if_pos rfl, if_pos (by simp)]
 exact congrArg some (beq_iff_eq.2 rfl)
theorem reads_walk (A : Option Addr) (cp : Nat) (l : List Int) (w : World)
  (hr : Go.Mine.RowR (fun _ y cs => cs = [Value.int .u8 y] ∧ (Lit.int .u8 y).wf = true) w w.heap.size 1 A l) (hz : l.length ≤ 9223372036854775807) (hc : l.length ≤ cp) :
  Calls Try.prog 4 #[.slice A l.length cp] w fun e w' => e = .returned (.bool true) ∧ Below w.heap.size w w' := by
 obtain ⟨hC, hB⟩ := bytes_of hr hz
 exact trothlaw06_PshReads.calls 400 A cp l true w hC hc (reads_plain (Nat.le_refl _) (fun z hz => hB z hz))
end Go.Proofs.Ytfndcfffbpbbhaa.Q
