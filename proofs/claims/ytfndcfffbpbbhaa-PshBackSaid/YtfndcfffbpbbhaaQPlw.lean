/- PshBack: its law and its call. -/
import Derived.Test.YtfndcfffbpbbhaaQPl
import Derived.Test.YtfndcfffbpbbhaaQBk
import Derived.Test.YtfndcfffbpbbhaaQByteRow
namespace Go.Proofs.Ytfndcfffbpbbhaa.Q
open Go.RowKit Go.Mine Go.Proofs.YtfndcfffbpbbhaaW.PrintWords Go.Proofs.YtfndcfffbpbbhaaW.PrintLast Go.Proofs.YtfndcfffbpbbhaaW.PrintMore
set_option linter.unusedVariables false
set_option linter.unusedSimpArgs false
theorem name_ne {a : Int} (h1 : 1 ≤ a) (h2 : a ≤ 13) : ∃ s, psh_Name.f a = some s ∧ (s.toList != ([] : List UInt8)) = true := by
  have : a = 1 ∨ a = 2 ∨ a = 3 ∨ a = 4 ∨ a = 5 ∨ a = 6 ∨ a = 7 ∨ a = 8 ∨ a = 9 ∨ a = 10 ∨ a = 11 ∨ a = 12 ∨ a = 13 := by omega
  rcases this with rfl | rfl | rfl | rfl | rfl | rfl | rfl | rfl | rfl | rfl | rfl | rfl | rfl <;> exact ⟨_, rfl, by rw [ByteArray.toList_eq]; rfl⟩
theorem back_j0 {l : List Int} (hb : Bytes l) (hl : l.length ≤ 3000) : trothlaw06_PshBack.j0 (0 + 1) l = some true := by
  rw [trothlaw06_PshBack.j0]
  rcases read_sound hb (by omega) with ⟨a, b, c, d, m, x, y, hr, hc, hd, hx, hy, hf, h⟩ | ⟨e, he, h, _⟩
  · have hk := right_kind hr
    obtain ⟨s, hs, hn⟩ := name_ne hk.1 hk.2
    rw [h, Option.bind_some]
    simp only
    rw [if_pos trivial, psh_write_eq hx hy, if_pos hr, Option.bind_some, alive6, Option.bind_some, if_pos rfl, if_pos rfl, if_pos (by rw [hf]), hs, Option.bind_some, hn]
  · rw [h, Option.bind_some]
    simp only
    rw [if_neg he, alive6, Option.bind_some, if_pos rfl]
    rfl
theorem back_plain {a b c d : Int} {m : Bool} {x y : Int} {l : List Int} (hc : U32b c) (hd : U32b d) (hx : U32b x) (hy : U32b y) (hb : Bytes l) : trothlaw06_PshBack.f (0 + 1) a b c d m x y l = some true := by
  unfold trothlaw06_PshBack.f
  by_cases hl : (l.length : Int) > 3000
  · rw [if_pos hl, alive6, Option.bind_some]
  rw [if_neg hl, psh_write_eq hx hy, Option.bind_some]
  by_cases hr : rightM a b c d m x y = true
  · rw [if_pos hr]
    simp only
    rw [if_pos trivial, read_frame hr hc hd hx hy, Option.bind_some]
    simp only
    rw [if_pos trivial, if_neg (by simp), psh_right_eq, hr, Option.bind_some, if_pos rfl]
    exact back_j0 hb (by omega)
  · rw [if_neg hr]
    simp only
    rw [if_neg (by decide)]
    exact back_j0 hb (by omega)
theorem back_walk (a b c d : Int) (m : Bool) (x y : Int) (A : Option Addr) (cp : Nat) (l : List Int) (w : World) (h : U32b c ∧ U32b d ∧ U32b x ∧ U32b y)
    (hr : Go.Mine.RowR (fun _ y cs => cs = [Value.int .u8 y] ∧ (Lit.int .u8 y).wf = true) w w.heap.size 1 A l) (hz : l.length ≤ 9223372036854775807) (hc : l.length ≤ cp) :
    Calls Try.prog 5 #[.agg #[.int .i64 a, .int .i64 b, .int .u32 c, .int .u32 d, .bool m, .int .u32 x, .int .u32 y], .slice A l.length cp] w fun e w' => e = .returned (.bool true) ∧ Below w.heap.size w w' := by
  obtain ⟨hC, hB⟩ := bytes_of hr hz
  exact trothlaw06_PshBack.calls (0 + 1) a b c d m x y A cp l true w hC hc rfl (back_plain h.1 h.2.1 h.2.2.1 h.2.2.2 (fun z hz => hB z hz))
end Go.Proofs.Ytfndcfffbpbbhaa.Q
