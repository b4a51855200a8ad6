/- psh.Read: what it computes, and that the call gives it. -/
import Derived.Test.YtfndcfffbpbbhaaQHand
import Derived.Test.YtfndcfffbpbbhaaQx3
import Derived.Test.YtfndcfffbpbbhaaQx9
import Derived.Test.YtfndcfffbpbbhaaQx10
namespace Go.Proofs.Ytfndcfffbpbbhaa.Q
open Go.RowKit Go.Proofs.YtfndcfffbpbbhaaW.PrintWords Go.Proofs.YtfndcfffbpbbhaaW.PrintLast Go.Proofs.YtfndcfffbpbbhaaW.PrintMore
set_option linter.unusedVariables false
set_option linter.unusedSimpArgs false

/-- The end of Read: the message, if it is right. -/
def readFin (a b c d : Int) (m : Bool) (x y : Int) : Option (Int × Int × Int × Int × Bool × Int × Int × Int) :=
  (psh_Right.f a b c d m x y).bind fun t => if t = true then some (a, b, c, d, m, x, y, 0) else some (0, 0, 0, 0, false, 0, 0, 30)
def psh_Read.f (l0 : List Int) : Option (Int × Int × Int × Int × Bool × Int × Int × Int) :=
  (gds_Next.f 128 l0).bind fun v =>
    if 2048 < v.2.1.length then none
    else if v.2.2.2 ≠ 0 then some (0, 0, 0, 0, false, 0, 0, v.2.2.2)
    else if v.2.2.1 < (l0.length : Int) then some (0, 0, 0, 0, false, 0, 0, 2)
    else if v.2.2.1 ≠ (v.2.1.length : Int) + 4 then some (0, 0, 0, 0, false, 0, 0, 30)
    else if wrap64 (v.1 - 4864) = 12 ∧ v.2.1.length = 8 then
      (oct_Get.f 16 (v.2.1.take 4)).bind fun a => (oct_Get.f 16 (v.2.1.drop 4)).bind fun c => readFin 12 0 0 0 false (IntKind.u32.wrap a.1) (IntKind.u32.wrap c.1)
    else if wrap64 (v.1 - 4864) = 13 ∧ v.2.1.length = 0 then readFin 13 0 0 0 false 0 0
    else if wrap64 (v.1 - 4864) < 12 ∧ v.2.1.length = 10 ∧ rd v.2.1 9 < 2 then
      (luw_Read.f (v.2.1.take 9)).bind fun u => readFin (wrap64 (v.1 - 4864)) u.1 u.2.1 u.2.2.1 (rd v.2.1 9 == 1) 0 0
    else some (0, 0, 0, 0, false, 0, 0, 30)

abbrev Z7 : Array Value := #[.int .i64 0, .int .i64 0, .int .u32 0, .int .u32 0, .bool false, .int .u32 0, .int .u32 0]
/-- What lies in memory behind the call of Next. -/
structure Behind (w w1 : World) (A1 : Option Addr) (r2 : List Int) : Prop where
  below : Below w.heap.size w w1
  res : w1.heap[w.heap.size]? = some (.cells Z7 26 (0, 0))
  size : w.heap.size < w1.heap.size
  data : Kd.C (Kd.int .u8) w1 A1 r2.length r2

theorem Behind.cells {w w1 : World} {A1 : Option Addr} {r2 : List Int} (h : Behind w w1 A1 r2) :
    w1.cell? ⟨w.heap.size, 0, none⟩ = some (.int .i64 0) ∧ w1.cell? ⟨w.heap.size, 1, none⟩ = some (.int .i64 0) ∧ w1.cell? ⟨w.heap.size, 2, none⟩ = some (.int .u32 0) ∧ w1.cell? ⟨w.heap.size, 3, none⟩ = some (.int .u32 0) ∧ w1.cell? ⟨w.heap.size, 4, none⟩ = some (.bool false) ∧ w1.cell? ⟨w.heap.size, 5, none⟩ = some (.int .u32 0) ∧ w1.cell? ⟨w.heap.size, 6, none⟩ = some (.int .u32 0) ∧ w1.frozen? ⟨w.heap.size, 0, none⟩ = false ∧ w1.frozen? ⟨w.heap.size, 1, none⟩ = false ∧ w1.frozen? ⟨w.heap.size, 2, none⟩ = false ∧ w1.frozen? ⟨w.heap.size, 3, none⟩ = false ∧ w1.frozen? ⟨w.heap.size, 4, none⟩ = false ∧ w1.frozen? ⟨w.heap.size, 5, none⟩ = false ∧ w1.frozen? ⟨w.heap.size, 6, none⟩ = false :=
  ⟨(blk_cell h.res 0).trans rfl, (blk_cell h.res 1).trans rfl, (blk_cell h.res 2).trans rfl, (blk_cell h.res 3).trans rfl, (blk_cell h.res 4).trans rfl, (blk_cell h.res 5).trans rfl, (blk_cell h.res 6).trans rfl, blk_frozen h.res 0, blk_frozen h.res 1, blk_frozen h.res 2, blk_frozen h.res 3, blk_frozen h.res 4, blk_frozen h.res 5, blk_frozen h.res 6⟩

theorem Behind.nine {w w1 : World} {A1 : Option Addr} {r2 : List Int} (h : Behind w w1 A1 r2) (hl : r2.length = 10) :
    ∃ b1 o1, A1 = some ⟨b1, o1, none⟩ ∧ b1 < w1.heap.size ∧ w1.cell? ⟨b1, o1 + 9, none⟩ = some (.int .u8 (rd r2 9)) := by
  obtain ⟨b1, o1, rfl⟩ := (addr_of h.data).resolve_left (by omega)
  obtain ⟨ad, e, hc⟩ := h.data.2.2 (by omega)
  cases e
  obtain ⟨x, hx⟩ : ∃ x, r2[9]? = some x := ⟨_, List.getElem?_eq_getElem (by omega)⟩
  obtain ⟨cs, hl', hk, hcell⟩ := hc 9 x hx
  have hk' : cs = [Value.int .u8 x] := hk
  subst hk'
  have h9 := hcell 0 _ rfl
  have h9' : w1.cell? ⟨b1, o1 + 9, none⟩ = some (.int .u8 x) := h9
  have hr : rd r2 9 = x := by
    unfold rd
    rw [show (9 : Int).toNat = 9 from rfl, List.getD_eq_getElem?_getD, hx]; rfl
  refine ⟨b1, o1, rfl, ?_, by rw [hr]; exact h9'⟩
  rcases Nat.lt_or_ge b1 w1.heap.size with hlt | hge
  · exact hlt
  · rw [World.cell?, Array.getElem?_eq_none hge] at h9'
    cases h9'

theorem next_here {A0 : Option Addr} {c0 : Nat} {l0 : List Int} {r1 : Int} {r2 : List Int} {r3 r4 : Int} (w : World) (hr0 : Kd.C (Kd.int .u8) w A0 l0.length l0) (hc0 : l0.length ≤ c0) (h : gds_Next.f 128 l0 = some (r1, r2, r3, r4)) :
    Calls Try.prog 27 #[.slice A0 l0.length c0] (w.alloc (.cells Z7 26)) fun e w1 => ∃ A1 c1, e = .returned (.tuple #[.agg #[.int .i64 r1, .slice A1 r2.length c1], .int .i64 r3, .int .i64 r4]) ∧ r2.length ≤ c1 ∧ Behind w w1 A1 r2 := by
  refine (gds_Next.calls 128 A0 c0 l0 r1 r2 r3 r4 (w.alloc (.cells Z7 26)) (Kd.C_alloc hr0 _) hc0 h).mono ?_
  rintro e w1 ⟨v1, rfl, hR, hB⟩
  obtain ⟨A1, c1, rfl, hl1, hC1⟩ := Kd.R_reads hR
  exact ⟨A1, c1, rfl, hl1, ⟨((Below.refl _ _).alloc (Nat.le_refl _) _).trans (hB.mono (by simp)), (hB.block _ (by simp)).trans (World.alloc_heap_new w _), by have := hB.size; simp at this; omega, hC1⟩⟩

theorem put7 {W : World} {g : Nat} (h : W.heap[g]? = some (.cells Z7 26 (0, 0))) (a b c d e f i : Value) :
    (((((((W.setCell ⟨g, 0, none⟩ a).setCell ⟨g, 1, none⟩ b).setCell ⟨g, 2, none⟩ c).setCell ⟨g, 3, none⟩ d).setCell ⟨g, 4, none⟩ e).setCell ⟨g, 5, none⟩ f).setCell ⟨g, 6, none⟩ i).heap[g]? = some (.cells #[a, b, c, d, e, f, i] 26 (0, 0)) :=
  blk_put (blk_put (blk_put (blk_put (blk_put (blk_put (blk_put h 0 a rfl) 1 b rfl) 2 c rfl) 3 d rfl) 4 e rfl) 5 f rfl) 6 i rfl
theorem bel7 {w W : World} {g : Nat} (h : Below g w W) (a b c d e f i : Value) :
    Below g w (((((((W.setCell ⟨g, 0, none⟩ a).setCell ⟨g, 1, none⟩ b).setCell ⟨g, 2, none⟩ c).setCell ⟨g, 3, none⟩ d).setCell ⟨g, 4, none⟩ e).setCell ⟨g, 5, none⟩ f).setCell ⟨g, 6, none⟩ i) :=
  ((((((h.setCell (p := ⟨g, 0, none⟩) (Nat.le_refl _) _).setCell (p := ⟨g, 1, none⟩) (Nat.le_refl _) _).setCell (p := ⟨g, 2, none⟩) (Nat.le_refl _) _).setCell (p := ⟨g, 3, none⟩) (Nat.le_refl _) _).setCell (p := ⟨g, 4, none⟩) (Nat.le_refl _) _).setCell (p := ⟨g, 5, none⟩) (Nat.le_refl _) _).setCell (p := ⟨g, 6, none⟩) (Nat.le_refl _) _

set_option maxHeartbeats 1000000 in
theorem read_p1 {A0 : Option Addr} {c0 : Nat} {l0 : List Int} {r1 : Int} {r2 : List Int} {r3 r4 : Int} (w : World) (hr0 : Kd.C (Kd.int .u8) w A0 l0.length l0) (hc0 : l0.length ≤ c0) (h : gds_Next.f 128 l0 = some (r1, r2, r3, r4)) (h4 : r4 ≠ 0) :
    Calls Try.prog 15 #[.slice A0 l0.length c0] w fun e w' => e = .returned (.tuple #[.agg Z7, .int .i64 r4]) ∧ Below w.heap.size w w' := by
  have HN := Lib.hid (next_here w hr0 hc0 h)
  clear h
  have h4' : (r4 != 0) = true := by simpa using h4
  go_enter Try.func15, Try.ntmps15
  go_wp2_with (go_at_call 27; refine HN.out.mono ?_; rintro e w1 ⟨A1, c1, rfl, hl1, hb⟩; obtain ⟨q0, q1, q2, q3, q4, q5, q6, f0, f1, f2, f3, f4, f5, f6⟩ := hb.cells; have hsz := hb.size; have HB := Lib.hid hb; clear hb)
  have hh := blk_alloc (put7 HB.out.res (.int .i64 0) (.int .i64 0) (.int .u32 0) (.int .u32 0) (.bool false) (.int .u32 0) (.int .u32 0)) (Obj.cells #[Value.int IntKind.i64 r1, Value.slice A1 r2.length c1] 47)
  have hbl := below_alloc (bel7 HB.out.below (.int .i64 0) (.int .i64 0) (.int .u32 0) (.int .u32 0) (.bool false) (.int .u32 0) (.int .u32 0)) (Obj.cells #[Value.int IntKind.i64 r1, Value.slice A1 r2.length c1] 47)
  trace "1"
  refine bodyPost_ret (results_ct rfl _ _ w.heap.size 26 Z7 (0, 0) _ rfl hh Try.underlying26 rfl (by kernel_rfl)) rfl ⟨rfl, hbl⟩

set_option maxHeartbeats 2000000 in
theorem read_p2 {A0 : Option Addr} {c0 : Nat} {l0 : List Int} {r1 : Int} {r2 : List Int} {r3 r4 : Int} (w : World) (hr0 : Kd.C (Kd.int .u8) w A0 l0.length l0) (hc0 : l0.length ≤ c0) (h : gds_Next.f 128 l0 = some (r1, r2, r3, r4)) (h4 : r4 = 0) (h3 : r3 < (l0.length : Int)) :
    Calls Try.prog 15 #[.slice A0 l0.length c0] w fun e w' => e = .returned (.tuple #[.agg Z7, .int .i64 2]) ∧ Below w.heap.size w w' := by
  have HN := Lib.hid (next_here w hr0 hc0 h)
  clear h
  subst h4
  go_enter Try.func15, Try.ntmps15
  go_wp2_with (first | (go_at_call 27; refine HN.out.mono ?_; rintro e w1 ⟨A1, c1, rfl, hl1, hb⟩; obtain ⟨q0, q1, q2, q3, q4, q5, q6, f0, f1, f2, f3, f4, f5, f6⟩ := hb.cells; have hsz := hb.size; have HB := Lib.hid hb; clear hb))
  refine bodyPost_ret (results_ct rfl _ _ w.heap.size 26 Z7 (0, 0) _ rfl (blk_alloc (put7 HB.out.res _ _ _ _ _ _ _) _) Try.underlying26 rfl (by kernel_rfl)) rfl ⟨rfl, below_alloc (bel7 HB.out.below _ _ _ _ _ _ _) _⟩

set_option maxHeartbeats 2000000 in
theorem read_p3 {A0 : Option Addr} {c0 : Nat} {l0 : List Int} {r1 : Int} {r2 : List Int} {r3 r4 : Int} (w : World) (hr0 : Kd.C (Kd.int .u8) w A0 l0.length l0) (hc0 : l0.length ≤ c0) (h : gds_Next.f 128 l0 = some (r1, r2, r3, r4)) (h4 : r4 = 0) (h3 : ¬ r3 < (l0.length : Int)) (h5 : r3 ≠ (r2.length : Int) + 4) (hd : r2.length ≤ 2048) :
    Calls Try.prog 15 #[.slice A0 l0.length c0] w fun e w' => e = .returned (.tuple #[.agg Z7, .int .i64 30]) ∧ Below w.heap.size w w' := by
  have HN := Lib.hid (next_here w hr0 hc0 h)
  clear h
  subst h4
  have h5' : (r3 != (r2.length : Int) + 4) = true := by simpa using h5
  go_enter Try.func15, Try.ntmps15
  go_wp2_with (first | (go_at_call 27; refine HN.out.mono ?_; rintro e w1 ⟨A1, c1, rfl, hl1, hb⟩; obtain ⟨q0, q1, q2, q3, q4, q5, q6, f0, f1, f2, f3, f4, f5, f6⟩ := hb.cells; have hsz := hb.size; have HB := Lib.hid hb; clear hb))
  refine bodyPost_ret (results_ct rfl _ _ w.heap.size 26 Z7 (0, 0) _ rfl (blk_alloc (blk_alloc (put7 HB.out.res _ _ _ _ _ _ _) _) _) Try.underlying26 rfl (by kernel_rfl)) rfl ⟨rfl, below_alloc (below_alloc (bel7 HB.out.below _ _ _ _ _ _ _) _) _⟩
end Go.Proofs.Ytfndcfffbpbbhaa.Q

namespace Go.Proofs.Ytfndcfffbpbbhaa.Q
open Go.RowKit Go.Proofs.YtfndcfffbpbbhaaW.PrintWords Go.Proofs.YtfndcfffbpbbhaaW.PrintLast Go.Proofs.YtfndcfffbpbbhaaW.PrintMore
set_option linter.unusedVariables false
set_option linter.unusedSimpArgs false

set_option maxHeartbeats 2000000 in
theorem read_p7a {A0 : Option Addr} {c0 : Nat} {l0 : List Int} {r1 : Int} {r2 : List Int} {r3 r4 : Int} (w : World) (hr0 : Kd.C (Kd.int .u8) w A0 l0.length l0) (hc0 : l0.length ≤ c0) (h : gds_Next.f 128 l0 = some (r1, r2, r3, r4)) (h4 : r4 = 0) (h3 : ¬ r3 < (l0.length : Int)) (h5 : r3 = (r2.length : Int) + 4) (hd : r2.length ≤ 2048) (hk : wrap64 (r1 - 4864) = 12) (hn : ((r2.length : Int) == 8) = false) :
    Calls Try.prog 15 #[.slice A0 l0.length c0] w fun e w' => e = .returned (.tuple #[.agg Z7, .int .i64 30]) ∧ Below w.heap.size w w' := by
  have HN := Lib.hid (next_here w hr0 hc0 h)
  clear h
  subst h4 h5
  have hn2 : (r2.length == 8) = false := by rw [beq_eq_false_iff_ne] at hn ⊢; omega
  go_enter Try.func15, Try.ntmps15
  go_wp2_with (first | (go_at_call 27; refine HN.out.mono ?_; rintro e w1 ⟨A1, c1, rfl, hl1, hb⟩; obtain ⟨q0, q1, q2, q3, q4, q5, q6, f0, f1, f2, f3, f4, f5, f6⟩ := hb.cells; have hsz := hb.size; have HB := Lib.hid hb; clear hb))
  refine bodyPost_ret (results_ct rfl _ _ w.heap.size 26 Z7 (0, 0) _ rfl (blk_alloc (blk_alloc (put7 HB.out.res _ _ _ _ _ _ _) _) _) Try.underlying26 rfl (by kernel_rfl)) rfl ⟨rfl, below_alloc (below_alloc (bel7 HB.out.below _ _ _ _ _ _ _) _) _⟩

set_option maxHeartbeats 2000000 in
theorem read_p7b {A0 : Option Addr} {c0 : Nat} {l0 : List Int} {r1 : Int} {r2 : List Int} {r3 r4 : Int} (w : World) (hr0 : Kd.C (Kd.int .u8) w A0 l0.length l0) (hc0 : l0.length ≤ c0) (h : gds_Next.f 128 l0 = some (r1, r2, r3, r4)) (h4 : r4 = 0) (h3 : ¬ r3 < (l0.length : Int)) (h5 : r3 = (r2.length : Int) + 4) (hd : r2.length ≤ 2048) (hk : wrap64 (r1 - 4864) = 13) (hn : ((r2.length : Int) == 0) = false) :
    Calls Try.prog 15 #[.slice A0 l0.length c0] w fun e w' => e = .returned (.tuple #[.agg Z7, .int .i64 30]) ∧ Below w.heap.size w w' := by
  have HN := Lib.hid (next_here w hr0 hc0 h)
  clear h
  subst h4 h5
  have hn2 : (r2.length == 0) = false := by rw [beq_eq_false_iff_ne] at hn ⊢; omega
  go_enter Try.func15, Try.ntmps15
  go_wp2_with (first | (go_at_call 27; refine HN.out.mono ?_; rintro e w1 ⟨A1, c1, rfl, hl1, hb⟩; obtain ⟨q0, q1, q2, q3, q4, q5, q6, f0, f1, f2, f3, f4, f5, f6⟩ := hb.cells; have hsz := hb.size; have HB := Lib.hid hb; clear hb))
  refine bodyPost_ret (results_ct rfl _ _ w.heap.size 26 Z7 (0, 0) _ rfl (blk_alloc (blk_alloc (put7 HB.out.res _ _ _ _ _ _ _) _) _) Try.underlying26 rfl (by kernel_rfl)) rfl ⟨rfl, below_alloc (below_alloc (bel7 HB.out.below _ _ _ _ _ _ _) _) _⟩

set_option maxHeartbeats 2000000 in
theorem read_p7c {A0 : Option Addr} {c0 : Nat} {l0 : List Int} {r1 : Int} {r2 : List Int} {r3 r4 : Int} (w : World) (hr0 : Kd.C (Kd.int .u8) w A0 l0.length l0) (hc0 : l0.length ≤ c0) (h : gds_Next.f 128 l0 = some (r1, r2, r3, r4)) (h4 : r4 = 0) (h3 : ¬ r3 < (l0.length : Int)) (h5 : r3 = (r2.length : Int) + 4) (hd : r2.length ≤ 2048) (hk : wrap64 (r1 - 4864) < 12) (hn : ((r2.length : Int) == 10) = false) :
    Calls Try.prog 15 #[.slice A0 l0.length c0] w fun e w' => e = .returned (.tuple #[.agg Z7, .int .i64 30]) ∧ Below w.heap.size w w' := by
  have HN := Lib.hid (next_here w hr0 hc0 h)
  clear h
  subst h4 h5
  have hn2 : (r2.length == 10) = false := by rw [beq_eq_false_iff_ne] at hn ⊢; omega
  have k12 : (wrap64 (r1 - 4864) == 12) = false := by simp; omega
  have k13 : (wrap64 (r1 - 4864) == 13) = false := by simp; omega
  go_enter Try.func15, Try.ntmps15
  go_wp2_with (first | (go_at_call 27; refine HN.out.mono ?_; rintro e w1 ⟨A1, c1, rfl, hl1, hb⟩; obtain ⟨q0, q1, q2, q3, q4, q5, q6, f0, f1, f2, f3, f4, f5, f6⟩ := hb.cells; have hsz := hb.size; have HB := Lib.hid hb; clear hb))
  refine bodyPost_ret (results_ct rfl _ _ w.heap.size 26 Z7 (0, 0) _ rfl (blk_alloc (blk_alloc (put7 HB.out.res _ _ _ _ _ _ _) _) _) Try.underlying26 rfl (by kernel_rfl)) rfl ⟨rfl, below_alloc (below_alloc (bel7 HB.out.below _ _ _ _ _ _ _) _) _⟩

set_option maxHeartbeats 2000000 in
theorem read_p7e {A0 : Option Addr} {c0 : Nat} {l0 : List Int} {r1 : Int} {r2 : List Int} {r3 r4 : Int} (w : World) (hr0 : Kd.C (Kd.int .u8) w A0 l0.length l0) (hc0 : l0.length ≤ c0) (h : gds_Next.f 128 l0 = some (r1, r2, r3, r4)) (h4 : r4 = 0) (h3 : ¬ r3 < (l0.length : Int)) (h5 : r3 = (r2.length : Int) + 4) (hd : r2.length ≤ 2048) (hk : 13 < wrap64 (r1 - 4864)) :
    Calls Try.prog 15 #[.slice A0 l0.length c0] w fun e w' => e = .returned (.tuple #[.agg Z7, .int .i64 30]) ∧ Below w.heap.size w w' := by
  have HN := Lib.hid (next_here w hr0 hc0 h)
  clear h
  subst h4 h5
  have k12 : (wrap64 (r1 - 4864) == 12) = false := by simp; omega
  have k13 : (wrap64 (r1 - 4864) == 13) = false := by simp; omega
  have k14 : ¬ wrap64 (r1 - 4864) < 12 := by omega
  go_enter Try.func15, Try.ntmps15
  go_wp2_with (first | (go_at_call 27; refine HN.out.mono ?_; rintro e w1 ⟨A1, c1, rfl, hl1, hb⟩; obtain ⟨q0, q1, q2, q3, q4, q5, q6, f0, f1, f2, f3, f4, f5, f6⟩ := hb.cells; have hsz := hb.size; have HB := Lib.hid hb; clear hb))
  refine bodyPost_ret (results_ct rfl _ _ w.heap.size 26 Z7 (0, 0) _ rfl (blk_alloc (blk_alloc (put7 HB.out.res _ _ _ _ _ _ _) _) _) Try.underlying26 rfl (by kernel_rfl)) rfl ⟨rfl, below_alloc (below_alloc (bel7 HB.out.below _ _ _ _ _ _ _) _) _⟩

set_option maxHeartbeats 4000000 in
theorem read_p7d {A0 : Option Addr} {c0 : Nat} {l0 : List Int} {r1 : Int} {r2 : List Int} {r3 r4 : Int} (w : World) (hr0 : Kd.C (Kd.int .u8) w A0 l0.length l0) (hc0 : l0.length ≤ c0) (h : gds_Next.f 128 l0 = some (r1, r2, r3, r4)) (h4 : r4 = 0) (h3 : ¬ r3 < (l0.length : Int)) (h5 : r3 = (r2.length : Int) + 4) (hd : r2.length ≤ 2048) (hk : wrap64 (r1 - 4864) < 12) (hn : r2.length = 10) (h9 : ¬ rd r2 9 < 2) :
    Calls Try.prog 15 #[.slice A0 l0.length c0] w fun e w' => e = .returned (.tuple #[.agg Z7, .int .i64 30]) ∧ Below w.heap.size w w' := by
  have HN := Lib.hid (next_here w hr0 hc0 h)
  clear h
  subst h4 h5
  have H10 := Lib.hid hn
  have hn2 : (r2.length == 10) = true := by simpa using hn
  have hn3 : ((r2.length : Int) == 10) = true := by simp; omega
  have hn9 : 9 < r2.length := by omega
  clear hn
  have k12 : (wrap64 (r1 - 4864) == 12) = false := by simp; omega
  have k13 : (wrap64 (r1 - 4864) == 13) = false := by simp; omega
  go_enter Try.func15, Try.ntmps15
  go_wp2_with (first | (go_at_call 27; refine HN.out.mono ?_; rintro e w1 ⟨A1, c1, rfl, hl1, hb⟩; obtain ⟨q0, q1, q2, q3, q4, q5, q6, f0, f1, f2, f3, f4, f5, f6⟩ := hb.cells; have hsz := hb.size; obtain ⟨b1, o1, rfl, hb1, hc9⟩ := hb.nine H10.out; have HB := Lib.hid hb; clear hb))
  refine bodyPost_ret (results_ct rfl _ _ w.heap.size 26 Z7 (0, 0) _ rfl (blk_alloc (blk_alloc (put7 HB.out.res _ _ _ _ _ _ _) _) _) Try.underlying26 rfl (by kernel_rfl)) rfl ⟨rfl, below_alloc (below_alloc (bel7 HB.out.below _ _ _ _ _ _ _) _) _⟩
end Go.Proofs.Ytfndcfffbpbbhaa.Q

namespace Go.Proofs.Ytfndcfffbpbbhaa.Q
open Go.RowKit Go.Proofs.YtfndcfffbpbbhaaW.PrintWords Go.Proofs.YtfndcfffbpbbhaaW.PrintLast Go.Proofs.YtfndcfffbpbbhaaW.PrintMore
set_option linter.unusedVariables false
set_option linter.unusedSimpArgs false

/-- The result's box, later on. -/
structure Res (w W : World) : Prop where
  below : Below w.heap.size w W
  res : W.heap[w.heap.size]? = some (.cells Z7 26 (0, 0))
  size : w.heap.size < W.heap.size
theorem Behind.toRes {w w1 : World} {A1 : Option Addr} {r2 : List Int} (h : Behind w w1 A1 r2) : Res w w1 := ⟨h.below, h.res, h.size⟩
theorem Res.alloc {w W : World} (h : Res w W) (o : Obj) : Res w (W.alloc o) := ⟨below_alloc h.below o, blk_alloc h.res o, by have := h.size; simp; omega⟩
theorem Res.step {w W W' : World} (h : Res w W) (hb : Below W.heap.size W W') : Res w W' :=
  ⟨h.below.trans (hb.mono (by have := h.size; omega)), (hb.block _ h.size).trans h.res, by have := h.size; have := hb.size; omega⟩
theorem Res.drew {w W : World} (h : Res w W) (n : Nat) : Res w (W.drewN n) := ⟨h.below.trans ⟨rfl, rfl, rfl, Nat.le_refl _, fun _ _ => rfl⟩, h.res, h.size⟩
theorem Res.far {w W : World} (h : Res w W) {p : Addr} (hp : w.heap.size < p.block) (u : Value) : Res w (W.setCell p u) :=
  ⟨h.below.setCell (by omega) u, (Below.heap_setCell W p u _ (by omega)).trans h.res, by have := h.size; simpa [World.setCell] using this⟩
theorem Res.cells {w W : World} (h : Res w W) : W.cell? ⟨w.heap.size, 0, none⟩ = some (.int .i64 0) ∧ W.cell? ⟨w.heap.size, 1, none⟩ = some (.int .i64 0) ∧ W.cell? ⟨w.heap.size, 2, none⟩ = some (.int .u32 0) ∧ W.cell? ⟨w.heap.size, 3, none⟩ = some (.int .u32 0) ∧ W.cell? ⟨w.heap.size, 4, none⟩ = some (.bool false) ∧ W.cell? ⟨w.heap.size, 5, none⟩ = some (.int .u32 0) ∧ W.cell? ⟨w.heap.size, 6, none⟩ = some (.int .u32 0) ∧ W.frozen? ⟨w.heap.size, 0, none⟩ = false ∧ W.frozen? ⟨w.heap.size, 1, none⟩ = false ∧ W.frozen? ⟨w.heap.size, 2, none⟩ = false ∧ W.frozen? ⟨w.heap.size, 3, none⟩ = false ∧ W.frozen? ⟨w.heap.size, 4, none⟩ = false ∧ W.frozen? ⟨w.heap.size, 5, none⟩ = false ∧ W.frozen? ⟨w.heap.size, 6, none⟩ = false :=
  ⟨(blk_cell h.res 0).trans rfl, (blk_cell h.res 1).trans rfl, (blk_cell h.res 2).trans rfl, (blk_cell h.res 3).trans rfl, (blk_cell h.res 4).trans rfl, (blk_cell h.res 5).trans rfl, (blk_cell h.res 6).trans rfl, blk_frozen h.res 0, blk_frozen h.res 1, blk_frozen h.res 2, blk_frozen h.res 3, blk_frozen h.res 4, blk_frozen h.res 5, blk_frozen h.res 6⟩
theorem cells7 {W : World} {g : Nat} {a b c d e f h : Value} (hh : W.heap[g]? = some (.cells #[a, b, c, d, e, f, h] 26 (0, 0))) : W.cell? ⟨g, 0, none⟩ = some a ∧ W.cell? ⟨g, 1, none⟩ = some b ∧ W.cell? ⟨g, 2, none⟩ = some c ∧ W.cell? ⟨g, 3, none⟩ = some d ∧ W.cell? ⟨g, 4, none⟩ = some e ∧ W.cell? ⟨g, 5, none⟩ = some f ∧ W.cell? ⟨g, 6, none⟩ = some h ∧ W.frozen? ⟨g, 0, none⟩ = false ∧ W.frozen? ⟨g, 1, none⟩ = false ∧ W.frozen? ⟨g, 2, none⟩ = false ∧ W.frozen? ⟨g, 3, none⟩ = false ∧ W.frozen? ⟨g, 4, none⟩ = false ∧ W.frozen? ⟨g, 5, none⟩ = false ∧ W.frozen? ⟨g, 6, none⟩ = false :=
  ⟨(blk_cell hh 0).trans rfl, (blk_cell hh 1).trans rfl, (blk_cell hh 2).trans rfl, (blk_cell hh 3).trans rfl, (blk_cell hh 4).trans rfl, (blk_cell hh 5).trans rfl, (blk_cell hh 6).trans rfl, blk_frozen hh 0, blk_frozen hh 1, blk_frozen hh 2, blk_frozen hh 3, blk_frozen hh 4, blk_frozen hh 5, blk_frozen hh 6⟩

theorem blk_last (W : World) (o : Obj) {g : Nat} (h : W.heap.size = g) : (W.alloc o).heap[g]? = some o := h ▸ heap_alloc_new W o

set_option maxHeartbeats 4000000 in
theorem read_p5f {A0 : Option Addr} {c0 : Nat} {l0 : List Int} {r1 : Int} {r2 : List Int} {r3 r4 : Int} (w : World) (hr0 : Kd.C (Kd.int .u8) w A0 l0.length l0) (hc0 : l0.length ≤ c0) (h : gds_Next.f 128 l0 = some (r1, r2, r3, r4)) (h4 : r4 = 0) (h3 : ¬ r3 < (l0.length : Int)) (h5 : r3 = (r2.length : Int) + 4) (hd : r2.length ≤ 2048) (hk : wrap64 (r1 - 4864) = 13) (hn : r2.length = 0) (tt : Bool) (htt : tt = false) (hr : psh_Right.f 13 0 0 0 false 0 0 = some tt) :
    Calls Try.prog 15 #[.slice A0 l0.length c0] w fun e w' => e = .returned (.tuple #[.agg Z7, .int .i64 30]) ∧ Below w.heap.size w w' := by
  have HN := Lib.hid (next_here w hr0 hc0 h)
  clear h
  subst h4 h5
  have HR := Lib.hid hr
  clear hr
  subst htt
  have hn2 : ((r2.length : Int) == 0) = true := by simp; exact List.eq_nil_of_length_eq_zero hn
  go_enter Try.func15, Try.ntmps15
  go_wp2_with (first | (go_at_call 27; refine HN.out.mono ?_; rintro e w1 ⟨A1, c1, rfl, hl1, hb⟩; obtain ⟨q0, q1, q2, q3, q4, q5, q6, f0, f1, f2, f3, f4, f5, f6⟩ := hb.cells; have hsz := hb.size; have HB := Lib.hid hb; clear hb) | (go_at_call 11; refine (psh_Right.calls _ _ _ _ _ _ _ _ _ HR.out).mono ?_; rintro e w2 ⟨rfl, hb2⟩; have hr2 := ((HB.out.toRes.alloc _).alloc _).step hb2; have hm2 := (hb2.block (w1.heap.size + 1) (by simp)).trans (blk_last _ _ (by simp)); obtain ⟨u0, u1, u2, u3, u4, u5, u6, g0, g1, g2, g3, g4, g5, g6⟩ := hr2.cells; obtain ⟨v0, v1, v2, v3, v4, v5, v6, k0, k1, k2, k3, k4, k5, k6⟩ := cells7 hm2; have hs2 := hr2.size; have HR2 := Lib.hid hr2; clear hr2 hm2 hb2))
  refine bodyPost_ret (results_ct rfl _ _ w.heap.size 26 Z7 (0, 0) _ rfl (put7 HR2.out.res _ _ _ _ _ _ _) Try.underlying26 rfl (by kernel_rfl)) rfl ⟨rfl, bel7 HR2.out.below _ _ _ _ _ _ _⟩

set_option maxHeartbeats 4000000 in
theorem read_p5t {A0 : Option Addr} {c0 : Nat} {l0 : List Int} {r1 : Int} {r2 : List Int} {r3 r4 : Int} (w : World) (hr0 : Kd.C (Kd.int .u8) w A0 l0.length l0) (hc0 : l0.length ≤ c0) (h : gds_Next.f 128 l0 = some (r1, r2, r3, r4)) (h4 : r4 = 0) (h3 : ¬ r3 < (l0.length : Int)) (h5 : r3 = (r2.length : Int) + 4) (hd : r2.length ≤ 2048) (hk : wrap64 (r1 - 4864) = 13) (hn : r2.length = 0) (tt : Bool) (htt : tt = true) (hr : psh_Right.f 13 0 0 0 false 0 0 = some tt) :
    Calls Try.prog 15 #[.slice A0 l0.length c0] w fun e w' => e = .returned (.tuple #[.agg #[.int .i64 13, .int .i64 0, .int .u32 0, .int .u32 0, .bool false, .int .u32 0, .int .u32 0], .int .i64 0]) ∧ Below w.heap.size w w' := by
  have HN := Lib.hid (next_here w hr0 hc0 h)
  clear h
  subst h4 h5
  have HR := Lib.hid hr
  clear hr
  subst htt
  have hn2 : ((r2.length : Int) == 0) = true := by simp; exact List.eq_nil_of_length_eq_zero hn
  go_enter Try.func15, Try.ntmps15
  go_wp2_with (first | (go_at_call 27; refine HN.out.mono ?_; rintro e w1 ⟨A1, c1, rfl, hl1, hb⟩; obtain ⟨q0, q1, q2, q3, q4, q5, q6, f0, f1, f2, f3, f4, f5, f6⟩ := hb.cells; have hsz := hb.size; have HB := Lib.hid hb; clear hb) | (go_at_call 11; refine (psh_Right.calls _ _ _ _ _ _ _ _ _ HR.out).mono ?_; rintro e w2 ⟨rfl, hb2⟩; have hr2 := ((HB.out.toRes.alloc _).alloc _).step hb2; have hm2 := (hb2.block (w1.heap.size + 1) (by simp)).trans (blk_last _ _ (by simp)); obtain ⟨u0, u1, u2, u3, u4, u5, u6, g0, g1, g2, g3, g4, g5, g6⟩ := hr2.cells; obtain ⟨v0, v1, v2, v3, v4, v5, v6, k0, k1, k2, k3, k4, k5, k6⟩ := cells7 hm2; have hs2 := hr2.size; have HR2 := Lib.hid hr2; clear hr2 hm2 hb2))
  refine bodyPost_ret (results_ct rfl _ _ w.heap.size 26 #[.int .i64 13, .int .i64 0, .int .u32 0, .int .u32 0, .bool false, .int .u32 0, .int .u32 0] (0, 0) _ rfl (put7 HR2.out.res _ _ _ _ _ _ _) Try.underlying26 rfl (by kernel_rfl)) rfl ⟨rfl, bel7 HR2.out.below _ _ _ _ _ _ _⟩
end Go.Proofs.Ytfndcfffbpbbhaa.Q

namespace Go.Proofs.Ytfndcfffbpbbhaa.Q
open Go.RowKit Go.Proofs.YtfndcfffbpbbhaaW.PrintWords Go.Proofs.YtfndcfffbpbbhaaW.PrintLast Go.Proofs.YtfndcfffbpbbhaaW.PrintMore
set_option linter.unusedVariables false
set_option linter.unusedSimpArgs false

theorem cell_alloc2 {W : World} {b o : Nat} {v : Value} (hb : b < W.heap.size) (h : W.cell? ⟨b, o, none⟩ = some v) (x y : Obj) : ((W.alloc x).alloc y).cell? ⟨b, o, none⟩ = some v := by
  have h1 : ((W.alloc x).alloc y).heap[b]? = W.heap[b]? := (Below.heap_alloc _ _ _ (by simp; omega)).trans (Below.heap_alloc _ _ _ hb)
  rw [← h]
  simp only [World.cell?, h1]
theorem luw_here {W : World} {ad : Addr} {c1 : Nat} {r2 : List Int} {u1 u2 u3 u4 : Int} (hl : r2.length = 10) (hd : Kd.C (Kd.int .u8) W (some ad) r2.length r2) (hc : r2.length ≤ c1) (h : luw_Read.f (r2.take 9) = some (u1, u2, u3, u4)) :
    Calls Try.prog 29 #[.slice (some ad) 9 c1] W fun e w' => e = .returned (.tuple #[.agg #[.int .i64 u1, .int .u32 u2, .int .u32 u3], .int .i64 u4]) ∧ Below W.heap.size W w' := by
  have e9 : (r2.take 9).length = 9 := by rw [List.length_take]; omega
  have := luw_Read.calls (some ad) c1 (r2.take 9) u1 u2 u3 u4 W (Kd.C_take hd (by omega)) (by omega) h
  rwa [e9] at this

set_option maxHeartbeats 4000000 in
theorem read_p6f {A0 : Option Addr} {c0 : Nat} {l0 : List Int} {r1 : Int} {r2 : List Int} {r3 r4 : Int} (w : World) (hr0 : Kd.C (Kd.int .u8) w A0 l0.length l0) (hc0 : l0.length ≤ c0) (h : gds_Next.f 128 l0 = some (r1, r2, r3, r4)) (h4 : r4 = 0) (h3 : ¬ r3 < (l0.length : Int)) (h5 : r3 = (r2.length : Int) + 4) (hd : r2.length ≤ 2048) (hk : wrap64 (r1 - 4864) < 12) (hn : r2.length = 10) (h9 : rd r2 9 < 2) (u1 u2 u3 u4 : Int) (hl : luw_Read.f (r2.take 9) = some (u1, u2, u3, u4)) (tt : Bool) (htt : tt = false) (hr : psh_Right.f (wrap64 (r1 - 4864)) u1 u2 u3 (rd r2 9 == 1) 0 0 = some tt) :
    Calls Try.prog 15 #[.slice A0 l0.length c0] w fun e w' => e = .returned (.tuple #[.agg Z7, .int .i64 30]) ∧ Below w.heap.size w w' := by
  have HN := Lib.hid (next_here w hr0 hc0 h)
  clear h
  subst h4 h5
  have H10 := Lib.hid hn
  have hn2 : (r2.length == 10) = true := by simpa using hn
  have hn3 : ((r2.length : Int) == 10) = true := by simp; omega
  have hn9 : 9 < r2.length := by omega
  have hn10 : 9 ≤ r2.length := by omega
  have k12 : (wrap64 (r1 - 4864) == 12) = false := by simp; omega
  have k13 : (wrap64 (r1 - 4864) == 13) = false := by simp; omega
  have HL := Lib.hid hl
  have HR := Lib.hid hr
  clear hn hl hr
  subst htt
  go_enter Try.func15, Try.ntmps15
  go_wp2_with (first | (go_at_call 27; refine HN.out.mono ?_; rintro e w1 ⟨A1, c1, rfl, hl1, hb⟩; obtain ⟨q0, q1, q2, q3, q4, q5, q6, f0, f1, f2, f3, f4, f5, f6⟩ := hb.cells; have hsz := hb.size; obtain ⟨b1, o1, rfl, hb1, hc9⟩ := hb.nine H10.out; have HB := Lib.hid hb; clear hb) | (go_at_call 29; refine (luw_here H10.out (Kd.C_alloc (Kd.C_alloc HB.out.data _) _) hl1 HL.out).mono ?_; rintro e w2 ⟨rfl, hb2⟩; have hr2 := ((HB.out.toRes.alloc _).alloc _).step hb2; have hm2 := (hb2.block (w1.heap.size + 1) (by simp)).trans (blk_last _ _ (by simp)); have hv2 := (hb2.block w1.heap.size (by simp; omega)).trans (blk_alloc (blk_last _ _ rfl) _); have hc2 := (hb2.cell (p := ⟨b1, o1 + 9, none⟩) (by simp; omega)).trans (cell_alloc2 hb1 hc9 _ _); have hs2 : w1.heap.size + 1 < w2.heap.size := (by have := hb2.size; simp at this; omega); obtain ⟨v0, v1, v2, v3, v4, v5, v6, k0, k1, k2, k3, k4, k5, k6⟩ := cells7 hm2; have x1 : w2.cell? ⟨w1.heap.size, 1, none⟩ = some (.slice (some ⟨b1, o1, none⟩) r2.length c1) := (blk_cell hv2 1).trans rfl; have hne : ¬ (b1 = w1.heap.size + 1) := (by omega); have hne' : ¬ (w1.heap.size + 1 = b1) := (by omega); have HR2 := Lib.hid hr2; have HM2 := Lib.hid hm2; clear hr2 hm2 hv2 hb2) | (go_at_call 11; refine (psh_Right.calls _ _ _ _ _ _ _ _ _ HR.out).mono ?_; rintro e w3 ⟨rfl, hb3⟩; have hr3 := ((((HR2.out.far (p := ⟨w1.heap.size + 1, 1, none⟩) (by simp; omega) (.int .i64 u1)).far (p := ⟨w1.heap.size + 1, 2, none⟩) (by simp; omega) (.int .u32 u2)).far (p := ⟨w1.heap.size + 1, 3, none⟩) (by simp; omega) (.int .u32 u3)).far (p := ⟨w1.heap.size + 1, 4, none⟩) (by simp; omega) (.bool (rd r2 9 == 1))).step hb3; have hm3 := (hb3.block (w1.heap.size + 1) (by simpa [World.setCell] using hs2)).trans (blk_put (blk_put (blk_put (blk_put HM2.out 1 (.int .i64 u1) rfl) 2 (.int .u32 u2) rfl) 3 (.int .u32 u3) rfl) 4 (.bool (rd r2 9 == 1)) rfl); obtain ⟨y0, y1, y2, y3, y4, y5, y6, g0, g1, g2, g3, g4, g5, g6⟩ := hr3.cells; obtain ⟨z0, z1, z2, z3, z4, z5, z6, j0, j1, j2, j3, j4, j5, j6⟩ := cells7 hm3; have hs3 := hr3.size; have HR3 := Lib.hid hr3; clear hr3 hm3 hb3))
  refine bodyPost_ret (results_ct rfl _ _ w.heap.size 26 Z7 (0, 0) _ rfl (put7 HR3.out.res _ _ _ _ _ _ _) Try.underlying26 rfl (by kernel_rfl)) rfl ⟨rfl, bel7 HR3.out.below _ _ _ _ _ _ _⟩

set_option maxHeartbeats 4000000 in
theorem read_p6t {A0 : Option Addr} {c0 : Nat} {l0 : List Int} {r1 : Int} {r2 : List Int} {r3 r4 : Int} (w : World) (hr0 : Kd.C (Kd.int .u8) w A0 l0.length l0) (hc0 : l0.length ≤ c0) (h : gds_Next.f 128 l0 = some (r1, r2, r3, r4)) (h4 : r4 = 0) (h3 : ¬ r3 < (l0.length : Int)) (h5 : r3 = (r2.length : Int) + 4) (hd : r2.length ≤ 2048) (hk : wrap64 (r1 - 4864) < 12) (hn : r2.length = 10) (h9 : rd r2 9 < 2) (u1 u2 u3 u4 : Int) (hl : luw_Read.f (r2.take 9) = some (u1, u2, u3, u4)) (tt : Bool) (htt : tt = true) (hr : psh_Right.f (wrap64 (r1 - 4864)) u1 u2 u3 (rd r2 9 == 1) 0 0 = some tt) :
    Calls Try.prog 15 #[.slice A0 l0.length c0] w fun e w' => e = .returned (.tuple #[.agg #[.int .i64 (wrap64 (r1 - 4864)), .int .i64 u1, .int .u32 u2, .int .u32 u3, .bool (rd r2 9 == 1), .int .u32 0, .int .u32 0], .int .i64 0]) ∧ Below w.heap.size w w' := by
  have HN := Lib.hid (next_here w hr0 hc0 h)
  clear h
  subst h4 h5
  have H10 := Lib.hid hn
  have hn2 : (r2.length == 10) = true := by simpa using hn
  have hn3 : ((r2.length : Int) == 10) = true := by simp; omega
  have hn9 : 9 < r2.length := by omega
  have hn10 : 9 ≤ r2.length := by omega
  have k12 : (wrap64 (r1 - 4864) == 12) = false := by simp; omega
  have k13 : (wrap64 (r1 - 4864) == 13) = false := by simp; omega
  have HL := Lib.hid hl
  have HR := Lib.hid hr
  clear hn hl hr
  subst htt
  go_enter Try.func15, Try.ntmps15
  go_wp2_with (first | (go_at_call 27; refine HN.out.mono ?_; rintro e w1 ⟨A1, c1, rfl, hl1, hb⟩; obtain ⟨q0, q1, q2, q3, q4, q5, q6, f0, f1, f2, f3, f4, f5, f6⟩ := hb.cells; have hsz := hb.size; obtain ⟨b1, o1, rfl, hb1, hc9⟩ := hb.nine H10.out; have HB := Lib.hid hb; clear hb) | (go_at_call 29; refine (luw_here H10.out (Kd.C_alloc (Kd.C_alloc HB.out.data _) _) hl1 HL.out).mono ?_; rintro e w2 ⟨rfl, hb2⟩; have hr2 := ((HB.out.toRes.alloc _).alloc _).step hb2; have hm2 := (hb2.block (w1.heap.size + 1) (by simp)).trans (blk_last _ _ (by simp)); have hv2 := (hb2.block w1.heap.size (by simp; omega)).trans (blk_alloc (blk_last _ _ rfl) _); have hc2 := (hb2.cell (p := ⟨b1, o1 + 9, none⟩) (by simp; omega)).trans (cell_alloc2 hb1 hc9 _ _); have hs2 : w1.heap.size + 1 < w2.heap.size := (by have := hb2.size; simp at this; omega); obtain ⟨v0, v1, v2, v3, v4, v5, v6, k0, k1, k2, k3, k4, k5, k6⟩ := cells7 hm2; have x1 : w2.cell? ⟨w1.heap.size, 1, none⟩ = some (.slice (some ⟨b1, o1, none⟩) r2.length c1) := (blk_cell hv2 1).trans rfl; have hne : ¬ (b1 = w1.heap.size + 1) := (by omega); have hne' : ¬ (w1.heap.size + 1 = b1) := (by omega); have HR2 := Lib.hid hr2; have HM2 := Lib.hid hm2; clear hr2 hm2 hv2 hb2) | (go_at_call 11; refine (psh_Right.calls _ _ _ _ _ _ _ _ _ HR.out).mono ?_; rintro e w3 ⟨rfl, hb3⟩; have hr3 := ((((HR2.out.far (p := ⟨w1.heap.size + 1, 1, none⟩) (by simp; omega) (.int .i64 u1)).far (p := ⟨w1.heap.size + 1, 2, none⟩) (by simp; omega) (.int .u32 u2)).far (p := ⟨w1.heap.size + 1, 3, none⟩) (by simp; omega) (.int .u32 u3)).far (p := ⟨w1.heap.size + 1, 4, none⟩) (by simp; omega) (.bool (rd r2 9 == 1))).step hb3; have hm3 := (hb3.block (w1.heap.size + 1) (by simpa [World.setCell] using hs2)).trans (blk_put (blk_put (blk_put (blk_put HM2.out 1 (.int .i64 u1) rfl) 2 (.int .u32 u2) rfl) 3 (.int .u32 u3) rfl) 4 (.bool (rd r2 9 == 1)) rfl); obtain ⟨y0, y1, y2, y3, y4, y5, y6, g0, g1, g2, g3, g4, g5, g6⟩ := hr3.cells; obtain ⟨z0, z1, z2, z3, z4, z5, z6, j0, j1, j2, j3, j4, j5, j6⟩ := cells7 hm3; have hs3 := hr3.size; have HR3 := Lib.hid hr3; clear hr3 hm3 hb3))
  refine bodyPost_ret (results_ct rfl _ _ w.heap.size 26 #[.int .i64 (wrap64 (r1 - 4864)), .int .i64 u1, .int .u32 u2, .int .u32 u3, .bool (rd r2 9 == 1), .int .u32 0, .int .u32 0] (0, 0) _ rfl (put7 HR3.out.res _ _ _ _ _ _ _) Try.underlying26 rfl (by kernel_rfl)) rfl ⟨rfl, bel7 HR3.out.below _ _ _ _ _ _ _⟩
end Go.Proofs.Ytfndcfffbpbbhaa.Q

namespace Go.Proofs.Ytfndcfffbpbbhaa.Q
open Go.RowKit Go.Proofs.YtfndcfffbpbbhaaW.PrintWords Go.Proofs.YtfndcfffbpbbhaaW.PrintLast Go.Proofs.YtfndcfffbpbbhaaW.PrintMore
set_option linter.unusedVariables false
set_option linter.unusedSimpArgs false

theorem get_here {W : World} {ad : Addr} {c1 : Nat} {r2 : List Int} {u1 u2 : Int} (hl : r2.length = 8) (hd : Kd.C (Kd.int .u8) W (some ad) r2.length r2) (hc : r2.length ≤ c1) (h : oct_Get.f 16 (r2.take 4) = some (u1, u2)) :
    Calls Try.prog 28 #[.slice (some ad) 4 c1] W fun e w' => e = .returned (.tuple #[.int .u64 u1, .int .i64 u2]) ∧ Drawn0 W w' := by
  have e9 : (r2.take 4).length = 4 := by rw [List.length_take]; omega
  have := oct_Get.calls 16 (some ad) c1 (r2.take 4) u1 u2 W (Kd.C_take hd (by omega)) (by omega) h
  rwa [e9] at this
theorem get_here2 {W : World} {b o : Nat} {c1 : Nat} {r2 : List Int} {u1 u2 : Int} (hl : r2.length = 8) (hd : Kd.C (Kd.int .u8) W (some ⟨b, o, none⟩) r2.length r2) (hc : r2.length ≤ c1) (h : oct_Get.f 16 (r2.drop 4) = some (u1, u2)) :
    Calls Try.prog 28 #[.slice (some ⟨b, o + 4, none⟩) (r2.length - 4) (c1 - 4)] W fun e w' => e = .returned (.tuple #[.int .u64 u1, .int .i64 u2]) ∧ Drawn0 W w' := by
  have e9 : (r2.drop 4).length = r2.length - 4 := by rw [List.length_drop]
  have hC := Kd.C_drop (m := 4) (c := c1) hd (by omega) hc
  rw [if_neg (by omega)] at hC
  have := oct_Get.calls 16 (some ⟨b, o + 4, none⟩) (c1 - 4) (r2.drop 4) u1 u2 W hC (by omega) h
  rwa [e9] at this

set_option maxHeartbeats 4000000 in
theorem read_p4f {A0 : Option Addr} {c0 : Nat} {l0 : List Int} {r1 : Int} {r2 : List Int} {r3 r4 : Int} (w : World) (hr0 : Kd.C (Kd.int .u8) w A0 l0.length l0) (hc0 : l0.length ≤ c0) (h : gds_Next.f 128 l0 = some (r1, r2, r3, r4)) (h4 : r4 = 0) (h3 : ¬ r3 < (l0.length : Int)) (h5 : r3 = (r2.length : Int) + 4) (hd : r2.length ≤ 2048) (hk : wrap64 (r1 - 4864) = 12) (hn : r2.length = 8) (a1 a2 g1 g2 : Int) (ha : oct_Get.f 16 (r2.take 4) = some (a1, a2)) (hg : oct_Get.f 16 (r2.drop 4) = some (g1, g2)) (tt : Bool) (htt : tt = false) (hr : psh_Right.f 12 0 0 0 false (IntKind.u32.wrap a1) (IntKind.u32.wrap g1) = some tt) :
    Calls Try.prog 15 #[.slice A0 l0.length c0] w fun e w' => e = .returned (.tuple #[.agg Z7, .int .i64 30]) ∧ Below w.heap.size w w' := by
  have HN := Lib.hid (next_here w hr0 hc0 h)
  clear h
  subst h4 h5
  have H8 := Lib.hid hn
  have hn2 : (r2.length == 8) = true := by simpa using hn
  have hn3 : ((r2.length : Int) == 8) = true := by simp; omega
  have hn9 : 4 ≤ r2.length := by omega
  have HA := Lib.hid ha
  have HG := Lib.hid hg
  have HR := Lib.hid hr
  clear hn hr ha hg
  subst htt
  go_enter Try.func15, Try.ntmps15
  go_wp2_with (first | (go_at_call 27; refine HN.out.mono ?_; rintro e w1 ⟨A1, c1, rfl, hl1, hb⟩; obtain ⟨q0, q1, q2, q3, q4, q5, q6, f0, f1, f2, f3, f4, f5, f6⟩ := hb.cells; have hsz := hb.size; obtain ⟨b1, o1, rfl⟩ := (addr_of hb.data).resolve_left (by have := H8.out; omega); have hcc : 4 < c1 := (by have := H8.out; omega); have HB := Lib.hid hb; clear hb))
  refine (get_here H8.out (Kd.C_alloc (Kd.C_alloc HB.out.data _) _) hl1 HA.out).mono ?_
  rintro e w2 ⟨rfl, hd2⟩
  have hb2 := hd2.below
  have hr2 := ((HB.out.toRes.alloc _).alloc _).step hb2
  have hm2 := (hb2.block (w1.heap.size + 1) (by simp)).trans (blk_last _ _ (by simp))
  have hv2 := (hb2.block w1.heap.size (by simp; omega)).trans (blk_alloc (blk_last _ _ rfl) _)
  have hs2 : w1.heap.size + 1 < w2.heap.size := (by have := hb2.size; simp at this; omega)
  have x1 : w2.cell? ⟨w1.heap.size, 1, none⟩ = some (.slice (some ⟨b1, o1, none⟩) r2.length c1) := (blk_cell hv2 1).trans rfl
  have HD2 := Lib.hid (Kd.C_below (Kd.C_alloc (Kd.C_alloc HB.out.data _) _) hb2)
  have HR2 := Lib.hid hr2
  have HM2 := Lib.hid hm2
  clear hr2 hm2 hv2 hb2 hd2
  go_wp2_with fail
  refine (get_here2 H8.out HD2.out hl1 HG.out).mono ?_
  rintro e w3 ⟨rfl, hd3⟩
  have hb3 := hd3.below
  have hr3 := HR2.out.step hb3
  have hm3 := (hb3.block (w1.heap.size + 1) hs2).trans HM2.out
  have hs3 : w1.heap.size + 1 < w3.heap.size := (by have := hb3.size; omega)
  obtain ⟨v0, v1, v2, v3, v4, v5, v6, k0, k1, k2, k3, k4, k5, k6⟩ := cells7 hm3
  have HR3 := Lib.hid hr3
  have HM3 := Lib.hid hm3
  clear hr3 hm3 hb3 hd3
  go_wp2_with fail
  refine (psh_Right.calls _ _ _ _ _ _ _ _ _ HR.out).mono ?_
  rintro e w4 ⟨rfl, hb4⟩
  have hr4 := ((HR3.out.far (p := ⟨w1.heap.size + 1, 5, none⟩) (by simp; omega) (.int .u32 (IntKind.u32.wrap a1))).far (p := ⟨w1.heap.size + 1, 6, none⟩) (by simp; omega) (.int .u32 (IntKind.u32.wrap g1))).step hb4
  have hm4 := (hb4.block (w1.heap.size + 1) (by simpa [World.setCell] using hs3)).trans (blk_put (blk_put HM3.out 5 (.int .u32 (IntKind.u32.wrap a1)) rfl) 6 (.int .u32 (IntKind.u32.wrap g1)) rfl)
  obtain ⟨y0, y1, y2, y3, y4, y5, y6, g0', g1', g2', g3', g4', g5', g6'⟩ := hr4.cells
  obtain ⟨z0, z1, z2, z3, z4, z5, z6, j0, j1, j2, j3, j4, j5, j6⟩ := cells7 hm4
  have hs4 := hr4.size
  have HR4 := Lib.hid hr4
  clear hr4 hm4 hb4
  go_wp2_with fail
  refine bodyPost_ret (results_ct rfl _ _ w.heap.size 26 Z7 (0, 0) _ rfl (put7 HR4.out.res _ _ _ _ _ _ _) Try.underlying26 rfl (by kernel_rfl)) rfl ⟨rfl, bel7 HR4.out.below _ _ _ _ _ _ _⟩

set_option maxHeartbeats 4000000 in
theorem read_p4t {A0 : Option Addr} {c0 : Nat} {l0 : List Int} {r1 : Int} {r2 : List Int} {r3 r4 : Int} (w : World) (hr0 : Kd.C (Kd.int .u8) w A0 l0.length l0) (hc0 : l0.length ≤ c0) (h : gds_Next.f 128 l0 = some (r1, r2, r3, r4)) (h4 : r4 = 0) (h3 : ¬ r3 < (l0.length : Int)) (h5 : r3 = (r2.length : Int) + 4) (hd : r2.length ≤ 2048) (hk : wrap64 (r1 - 4864) = 12) (hn : r2.length = 8) (a1 a2 g1 g2 : Int) (ha : oct_Get.f 16 (r2.take 4) = some (a1, a2)) (hg : oct_Get.f 16 (r2.drop 4) = some (g1, g2)) (tt : Bool) (htt : tt = true) (hr : psh_Right.f 12 0 0 0 false (IntKind.u32.wrap a1) (IntKind.u32.wrap g1) = some tt) :
    Calls Try.prog 15 #[.slice A0 l0.length c0] w fun e w' => e = .returned (.tuple #[.agg #[.int .i64 12, .int .i64 0, .int .u32 0, .int .u32 0, .bool false, .int .u32 (IntKind.u32.wrap a1), .int .u32 (IntKind.u32.wrap g1)], .int .i64 0]) ∧ Below w.heap.size w w' := by
  have HN := Lib.hid (next_here w hr0 hc0 h)
  clear h
  subst h4 h5
  have H8 := Lib.hid hn
  have hn2 : (r2.length == 8) = true := by simpa using hn
  have hn3 : ((r2.length : Int) == 8) = true := by simp; omega
  have hn9 : 4 ≤ r2.length := by omega
  have HA := Lib.hid ha
  have HG := Lib.hid hg
  have HR := Lib.hid hr
  clear hn hr ha hg
  subst htt
  go_enter Try.func15, Try.ntmps15
  go_wp2_with (first | (go_at_call 27; refine HN.out.mono ?_; rintro e w1 ⟨A1, c1, rfl, hl1, hb⟩; obtain ⟨q0, q1, q2, q3, q4, q5, q6, f0, f1, f2, f3, f4, f5, f6⟩ := hb.cells; have hsz := hb.size; obtain ⟨b1, o1, rfl⟩ := (addr_of hb.data).resolve_left (by have := H8.out; omega); have hcc : 4 < c1 := (by have := H8.out; omega); have HB := Lib.hid hb; clear hb))
  refine (get_here H8.out (Kd.C_alloc (Kd.C_alloc HB.out.data _) _) hl1 HA.out).mono ?_
  rintro e w2 ⟨rfl, hd2⟩
  have hb2 := hd2.below
  have hr2 := ((HB.out.toRes.alloc _).alloc _).step hb2
  have hm2 := (hb2.block (w1.heap.size + 1) (by simp)).trans (blk_last _ _ (by simp))
  have hv2 := (hb2.block w1.heap.size (by simp; omega)).trans (blk_alloc (blk_last _ _ rfl) _)
  have hs2 : w1.heap.size + 1 < w2.heap.size := (by have := hb2.size; simp at this; omega)
  have x1 : w2.cell? ⟨w1.heap.size, 1, none⟩ = some (.slice (some ⟨b1, o1, none⟩) r2.length c1) := (blk_cell hv2 1).trans rfl
  have HD2 := Lib.hid (Kd.C_below (Kd.C_alloc (Kd.C_alloc HB.out.data _) _) hb2)
  have HR2 := Lib.hid hr2
  have HM2 := Lib.hid hm2
  clear hr2 hm2 hv2 hb2 hd2
  go_wp2_with fail
  refine (get_here2 H8.out HD2.out hl1 HG.out).mono ?_
  rintro e w3 ⟨rfl, hd3⟩
  have hb3 := hd3.below
  have hr3 := HR2.out.step hb3
  have hm3 := (hb3.block (w1.heap.size + 1) hs2).trans HM2.out
  have hs3 : w1.heap.size + 1 < w3.heap.size := (by have := hb3.size; omega)
  obtain ⟨v0, v1, v2, v3, v4, v5, v6, k0, k1, k2, k3, k4, k5, k6⟩ := cells7 hm3
  have HR3 := Lib.hid hr3
  have HM3 := Lib.hid hm3
  clear hr3 hm3 hb3 hd3
  go_wp2_with fail
  refine (psh_Right.calls _ _ _ _ _ _ _ _ _ HR.out).mono ?_
  rintro e w4 ⟨rfl, hb4⟩
  have hr4 := ((HR3.out.far (p := ⟨w1.heap.size + 1, 5, none⟩) (by simp; omega) (.int .u32 (IntKind.u32.wrap a1))).far (p := ⟨w1.heap.size + 1, 6, none⟩) (by simp; omega) (.int .u32 (IntKind.u32.wrap g1))).step hb4
  have hm4 := (hb4.block (w1.heap.size + 1) (by simpa [World.setCell] using hs3)).trans (blk_put (blk_put HM3.out 5 (.int .u32 (IntKind.u32.wrap a1)) rfl) 6 (.int .u32 (IntKind.u32.wrap g1)) rfl)
  obtain ⟨y0, y1, y2, y3, y4, y5, y6, g0', g1', g2', g3', g4', g5', g6'⟩ := hr4.cells
  obtain ⟨z0, z1, z2, z3, z4, z5, z6, j0, j1, j2, j3, j4, j5, j6⟩ := cells7 hm4
  have hs4 := hr4.size
  have HR4 := Lib.hid hr4
  clear hr4 hm4 hb4
  go_wp2_with fail
  refine bodyPost_ret (results_ct rfl _ _ w.heap.size 26 #[.int .i64 12, .int .i64 0, .int .u32 0, .int .u32 0, .bool false, .int .u32 (IntKind.u32.wrap a1), .int .u32 (IntKind.u32.wrap g1)] (0, 0) _ rfl (put7 HR4.out.res _ _ _ _ _ _ _) Try.underlying26 rfl (by kernel_rfl)) rfl ⟨rfl, bel7 HR4.out.below _ _ _ _ _ _ _⟩
end Go.Proofs.Ytfndcfffbpbbhaa.Q

namespace Go.Proofs.Ytfndcfffbpbbhaa.Q
open Go.RowKit Go.Proofs.YtfndcfffbpbbhaaW.PrintWords Go.Proofs.YtfndcfffbpbbhaaW.PrintLast Go.Proofs.YtfndcfffbpbbhaaW.PrintMore
set_option linter.unusedVariables false
set_option linter.unusedSimpArgs false

theorem fin_cases {a b c d : Int} {m : Bool} {x y : Int} {r : Int × Int × Int × Int × Bool × Int × Int × Int} (h : readFin a b c d m x y = some r) :
    (psh_Right.f a b c d m x y = some true ∧ r = (a, b, c, d, m, x, y, 0)) ∨ (psh_Right.f a b c d m x y = some false ∧ r = (0, 0, 0, 0, false, 0, 0, 30)) := by
  unfold readFin at h
  obtain ⟨t, ht, h⟩ := Option.bind_eq_some_iff.1 h
  cases t with
  | true => rw [if_pos rfl] at h; cases h; exact .inl ⟨ht, rfl⟩
  | false => rw [if_neg (by decide)] at h; cases h; exact .inr ⟨ht, rfl⟩

theorem psh_Read.calls (A0 : Option Addr) (c0 : Nat) (l0 : List Int) (r1 : Int) (r2 : Int) (r3 : Int) (r4 : Int) (r5 : Bool) (r6 : Int) (r7 : Int) (r8 : Int) (w : World) (hr0 : Kd.C (Kd.int .u8) w A0 l0.length l0) (hc0 : l0.length ≤ c0) (h : psh_Read.f l0 = some (r1, r2, r3, r4, r5, r6, r7, r8)) :
    Calls Try.prog 15 #[.slice A0 l0.length c0] w fun e w' => e = .returned (.tuple #[.agg #[.int .i64 r1, .int .i64 r2, .int .u32 r3, .int .u32 r4, .bool r5, .int .u32 r6, .int .u32 r7], .int .i64 r8]) ∧ Below w.heap.size w w' := by
  unfold psh_Read.f at h
  obtain ⟨⟨v1, v2, v3, v4⟩, hN, h⟩ := Option.bind_eq_some_iff.1 h
  simp only at h
  by_cases hd0 : 2048 < v2.length
  · rw [if_pos hd0] at h; cases h
  rw [if_neg hd0] at h
  have hd : v2.length ≤ 2048 := by omega
  by_cases c4 : v4 = 0
  · rw [if_neg (by simpa using c4)] at h
    by_cases c3 : v3 < (l0.length : Int)
    · rw [if_pos c3] at h; cases h
      exact read_p2 w hr0 hc0 hN c4 c3
    rw [if_neg c3] at h
    by_cases c5 : v3 = (v2.length : Int) + 4
    · rw [if_neg (by simpa using c5)] at h
      by_cases k12 : wrap64 (v1 - 4864) = 12
      · by_cases l8 : v2.length = 8
        · rw [if_pos ⟨k12, l8⟩] at h
          obtain ⟨⟨a1, a2⟩, ha, h⟩ := Option.bind_eq_some_iff.1 h
          obtain ⟨⟨g1, g2⟩, hg, h⟩ := Option.bind_eq_some_iff.1 h
          rcases fin_cases h with ⟨hr, he⟩ | ⟨hr, he⟩
          · cases he; exact read_p4t w hr0 hc0 hN c4 c3 c5 hd k12 l8 a1 a2 g1 g2 ha hg true rfl hr
          · cases he; exact read_p4f w hr0 hc0 hN c4 c3 c5 hd k12 l8 a1 a2 g1 g2 ha hg false rfl hr
        · rw [if_neg (fun q => l8 q.2), if_neg (fun q => by omega), if_neg (fun q => by omega)] at h; cases h
          exact read_p7a w hr0 hc0 hN c4 c3 c5 hd k12 (by simp; omega)
      rw [if_neg (fun q => k12 q.1)] at h
      by_cases k13 : wrap64 (v1 - 4864) = 13
      · by_cases l0' : v2.length = 0
        · rw [if_pos ⟨k13, l0'⟩] at h
          rcases fin_cases h with ⟨hr, he⟩ | ⟨hr, he⟩
          · cases he; exact read_p5t w hr0 hc0 hN c4 c3 c5 hd k13 l0' true rfl hr
          · cases he; exact read_p5f w hr0 hc0 hN c4 c3 c5 hd k13 l0' false rfl hr
        · rw [if_neg (fun q => l0' q.2), if_neg (fun q => by omega)] at h; cases h
          exact read_p7b w hr0 hc0 hN c4 c3 c5 hd k13 (by simp; exact fun q => l0' (by rw [q]; rfl))
      rw [if_neg (fun q => k13 q.1)] at h
      by_cases klt : wrap64 (v1 - 4864) < 12
      · by_cases l10 : v2.length = 10
        · by_cases c9 : rd v2 9 < 2
          · rw [if_pos ⟨klt, l10, c9⟩] at h
            obtain ⟨⟨u1, u2, u3, u4⟩, hu, h⟩ := Option.bind_eq_some_iff.1 h
            rcases fin_cases h with ⟨hr, he⟩ | ⟨hr, he⟩
            · cases he; exact read_p6t w hr0 hc0 hN c4 c3 c5 hd klt l10 c9 u1 u2 u3 u4 hu true rfl hr
            · cases he; exact read_p6f w hr0 hc0 hN c4 c3 c5 hd klt l10 c9 u1 u2 u3 u4 hu false rfl hr
          · rw [if_neg (fun q => c9 q.2.2)] at h; cases h
            exact read_p7d w hr0 hc0 hN c4 c3 c5 hd klt l10 c9
        · rw [if_neg (fun q => l10 q.2.1)] at h; cases h
          exact read_p7c w hr0 hc0 hN c4 c3 c5 hd klt (by simp; omega)
      · rw [if_neg (fun q => klt q.1)] at h; cases h
        exact read_p7e w hr0 hc0 hN c4 c3 c5 hd (by omega)
    · rw [if_pos c5] at h; cases h
      exact read_p3 w hr0 hc0 hN c4 c3 c5 hd
  · rw [if_pos c4] at h; cases h
    exact read_p1 w hr0 hc0 hN c4
#print axioms psh_Read.calls
end Go.Proofs.Ytfndcfffbpbbhaa.Q
