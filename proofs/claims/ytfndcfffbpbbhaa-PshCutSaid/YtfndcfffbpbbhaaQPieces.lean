/- gds.pieces: the function that it hands back calls for a round for each piece, and turns its own cell alone. -/
import Derived.RangeFuncNested
import Derived.RangeFuncBound
import Derived.RangeFuncCalls
import Derived.RangeFuncLeaves
import Derived.Shelf.Abstract
import Derived.Shelf.RegionOpen
import Derived.WalkKit
import Derived.OwnWalkIn
import Derived.TacticsInMore
import Derived.LoopNIn
import Derived.LoopIn
import Derived.Lib.Hide
import Derived.Test.YtfndcfffbpbbhaaProg
import Derived.Test.YtfndcfffbpbbhaaQRange
namespace Go.Proofs.Ytfndcfffbpbbhaa.Q
open Go Go.RowKit Go.Shelf
attribute [local go_sem] Oper.semAt_some
set_option linter.unusedVariables false
set_option linter.unusedSimpArgs false
theorem pieces_in (F : Fence) (n : Nat) (h19 : F.fn 33) (hro : F.round = none) (A : Option Addr) (L C : Nat) (s : Int) (w : World) :
  CallsIn F n Try.prog 33 #[.slice A L C, .int .i64 s] w fun e w' => e = .returned (.func (.func 39) #[] #[.pointer (some ⟨w.heap.size, 0, none⟩), .pointer (some ⟨w.heap.size + 1, 0, none⟩)]) ∧
   w' = (w.alloc (.cells #[.slice A L C] 27)).alloc (.cells #[.int .i64 s] 3) := by
 refine callsIn_of_wp Try.func33 rfl h19 ?_ hro
 simp only [Try.ntmps33, List.size_toArray, List.length_cons, List.length_nil, Nat.reduceAdd, Nat.reduceSub, Array.replicate_succ, Array.replicate_zero, List.push_toArray, List.append_toArray, List.nil_append, List.cons_append]
 gi_wp2
 go_ret
 exact ⟨rfl, rfl⟩
def Keep2 (x y : Nat) (W W' : World) : Prop := W'.heap[x]? = W.heap[x]? ∧ W'.heap[y]? = W.heap[y]?
theorem Keep2.cell {x y : Nat} {W W' : World} (h : Keep2 x y W W') : W'.cell? ⟨x, 0, none⟩ = W.cell? ⟨x, 0, none⟩ ∧ W'.cell? ⟨y, 0, none⟩ = W.cell? ⟨y, 0, none⟩ ∧ W'.frozen? ⟨x, 0, none⟩ = W.frozen? ⟨x, 0, none⟩ := by
 refine ⟨?_, ?_, ?_⟩ <;> simp [World.cell?, World.frozen?, h.1, h.2]
def lenAt (w : World) (x : Nat) : Nat := match w.cell? ⟨x, 0, none⟩ with | some (.slice _ n _) => n | _ => 0
theorem lenAt_eq {w : World} {x L C : Nat} {A : Option Addr} (h : w.cell? ⟨x, 0, none⟩ = some (.slice A L C)) : lenAt w x = L := by unfold lenAt; rw [h]
def Turn (x : Nat) (J : Nat → World → Prop) : Prop := ∀ k W v, J k W → J k (W.setCell ⟨x, 0, none⟩ v)
theorem pieces1 (F : Fence) (n : Nat) (h23 : F.fn 39) (hro : F.round = none) (hn : 1 ≤ n) (x y b off L C s N : Nat) (hxy : x ≠ y) (hLC : L ≤ C) (hs : 0 < s) (hs2 : s ≤ 9223372036854775807)
  (hN0 : 0 < N) (hgo : ∀ k, k + 1 < N → k * s + s < L) (hst : L ≤ (N - 1) * s + s) (w : World)
  (hx : w.cell? ⟨x, 0, none⟩ = some (.slice (some ⟨b, off, none⟩) L C)) (hxf : w.frozen? ⟨x, 0, none⟩ = false) (hy : w.cell? ⟨y, 0, none⟩ = some (.int .i64 s)) :
  SeqAll F n Try.prog 39 #[.pointer (some ⟨x, 0, none⟩), .pointer (some ⟨y, 0, none⟩)]
   (fun k => if k + 1 < N then #[.slice (some ⟨b, off + k * s, none⟩) s (C - k * s), .bool false] else #[.slice (some ⟨b, off + k * s, none⟩) (L - k * s) (C - k * s), .bool true]) (Keep2 x y) (Turn x) N w := by
 intro l J W hW hT hY h0
 refine callsIn_of_wp Try.func39 rfl h23 ?_ hro
 simp only [Try.ntmps39, List.size_toArray, List.length_cons, List.length_nil, Nat.reduceAdd, Nat.reduceSub, Array.replicate_succ, Array.replicate_zero, List.push_toArray, List.append_toArray, List.nil_append, List.cons_append]
 gi_wp2
 obtain ⟨hkx, hky, hkf⟩ := hW.cell
 gi_loopw [4] (fun _ wr => ∃ k : Nat, k < N ∧ wr.cell? ⟨x, 0, none⟩ = some (.slice (some ⟨b, off + k * s, none⟩) (L - k * s) (C - k * s)) ∧ wr.frozen? ⟨x, 0, none⟩ = false ∧ wr.cell? ⟨y, 0, none⟩ = some (.int .i64 s) ∧ J k wr)
  (fun _ wr => lenAt wr x)
 case atStart =>
  exact ⟨0, hN0, by rw [hkx, hx]; simp, hkf.trans hxf, hky.trans hy, h0⟩
 case round =>
  obtain ⟨k, hkN, hcx, hfx, hcy, hJ⟩ := hrel
  by_cases hk : k + 1 < N
  ·have hl := hgo k hk
   obtain ⟨fn, tmps, assign, body, hy1, hR⟩ := hY k wr hJ hkN
   simp only [hk, if_true] at hy1
   have hg : decide ((s : Int) < ((L - k * s : Nat) : Int)) = true := by simp; omega
   gi_wp2
   refine hR.mono ?_
   rintro e W3 ⟨rfl, hJ3, hk3⟩
   obtain ⟨k3x, k3y, k3f⟩ := hk3.cell
   have hcx3 := k3x.trans hcx
   have hfx3 := k3f.trans hfx
   have hcy3 := k3y.trans hcy
   have hL0 := Lib.hid (lenAt_eq hcx)
   clear k3x k3y k3f hcx hfx hcy hkx hky hkf
   have hlt : (s : Int) < ((C - k * s : Nat) : Int) := by omega
   have e1 : (k + 1) * s = k * s + s := Nat.succ_mul k s
   have hle : lenAt wr x = L - k * s := hL0.out
   gi_wp2
   have hsame := World.cell?_setCell_same' (w := W3) ⟨x, 0, none⟩ (.slice (some ⟨b, off + k * s + s, none⟩) (L - k * s - s) (C - k * s - s)) (by rw [hcx3]; rfl)
   refine ⟨⟨k + 1, hk, ?_, ?_, ?_, hT _ _ _ hJ3⟩, ?_⟩
   ·rw [hsame, e1, ← Nat.add_assoc, Nat.sub_add_eq, Nat.sub_add_eq]
   ·rw [World.frozen?_setCell]; exact hfx3
   ·exact (World.cell?_setCell_other W3 _ _ _ (fun e => hxy (congrArg Addr.block e))).trans hcy3
   ·rw [lenAt_eq hsame, hle]; omega
  ·have hkN' : k = N - 1 := by omega
   subst hkN'
   obtain ⟨fn, tmps, assign, body, hy1, hR⟩ := hY (N - 1) wr hJ hkN
   simp only [hk, if_false] at hy1
   have hg : decide ((s : Int) < ((L - (N - 1) * s : Nat) : Int)) = false := by simp; omega
   gi_wp2
   refine hR.mono ?_
   rintro e W3 ⟨rfl, hJ3, hk3⟩
   rw [show N - 1 + 1 = N by omega] at hJ3
   gi_wp2
   go_end0
   exact ⟨⟨_, rfl⟩, hJ3⟩
theorem pieces0 (F : Fence) (n : Nat) (h23 : F.fn 39) (hro : F.round = none) (hn : 1 ≤ n) (x y s : Nat) (A : Option Addr) (C : Nat) (hs2 : s ≤ 9223372036854775807) (w : World)
  (hx : w.cell? ⟨x, 0, none⟩ = some (.slice A 0 C)) (hy : w.cell? ⟨y, 0, none⟩ = some (.int .i64 s)) :
  SeqAll F n Try.prog 39 #[.pointer (some ⟨x, 0, none⟩), .pointer (some ⟨y, 0, none⟩)] (fun _ => #[.slice A 0 C, .bool true]) (Keep2 x y) (Turn x) 1 w := by
 intro l J W hW hT hY h0
 refine callsIn_of_wp Try.func39 rfl h23 ?_ hro
 simp only [Try.ntmps39, List.size_toArray, List.length_cons, List.length_nil, Nat.reduceAdd, Nat.reduceSub, Array.replicate_succ, Array.replicate_zero, List.push_toArray, List.append_toArray, List.nil_append, List.cons_append]
 obtain ⟨hkx, hky, hkf⟩ := hW.cell
 have hcx := hkx.trans hx
 have hcy := hky.trans hy
 clear hkx hky hkf hx hy
 gi_wp2
 gi_loopw [4] (fun _ wr => wr = W) (fun _ _ => 0)
 case atStart => rfl
 case round =>
  subst hrel
  obtain ⟨fn, tmps, assign, body, hy1, hR⟩ := hY 0 wr h0 (by omega)
  have hg : ((s : Int) < 0) = False := by simp
  gi_wp2
  refine hR.mono ?_
  rintro e W3 ⟨rfl, hJ3, hk3⟩
  gi_wp2
  go_end0
  exact ⟨⟨_, rfl⟩, hJ3⟩
def mv (A : Option Addr) (i : Nat) : Option Addr := if i = 0 then A else A.map fun a => ⟨a.block, a.off + i, none⟩
theorem pieces_all (F : Fence) (n : Nat) (h23 : F.fn 39) (hro : F.round = none) (hn : 1 ≤ n) (x y : Nat) (A : Option Addr) (L C s N : Nat) (hA : L = 0 ∨ ∃ b off, A = some ⟨b, off, none⟩) (hxy : x ≠ y) (hLC : L ≤ C) (hs : 0 < s) (hs2 : s ≤ 9223372036854775807)
  (hN0 : 0 < N) (hgo : ∀ k, k + 1 < N → k * s + s < L) (hst : L ≤ (N - 1) * s + s) (w : World)
  (hx : w.cell? ⟨x, 0, none⟩ = some (.slice A L C)) (hxf : w.frozen? ⟨x, 0, none⟩ = false) (hy : w.cell? ⟨y, 0, none⟩ = some (.int .i64 s)) :
  SeqAll F n Try.prog 39 #[.pointer (some ⟨x, 0, none⟩), .pointer (some ⟨y, 0, none⟩)]
   (fun k => #[.slice (mv A (k * s)) (if k + 1 < N then s else L - k * s) (C - k * s), .bool (!decide (k + 1 < N))]) (Keep2 x y) (Turn x) N w := by
 rcases hA with rfl | ⟨b, off, rfl⟩
 ·have hN : N = 1 := by
   by_cases h : 0 + 1 < N
   ·have := hgo 0 h; omega
   ·omega
  subst hN
  have := pieces0 F n h23 hro hn x y s A C hs2 w hx hy
  intro l J W hW hT hY h0
  refine this l J W hW hT (fun k W1 hJ hk => ?_) h0
  obtain rfl : k = 0 := by omega
  simpa [mv] using hY 0 W1 hJ hk
 ·have e : ∀ i, mv (some ⟨b, off, none⟩) i = some ⟨b, off + i, none⟩ := by
   intro i
   unfold mv
   split
   ·rename_i h; subst h; rfl
   ·rfl
  have he : (fun k => #[Value.slice (mv (some ⟨b, off, none⟩) (k * s)) (if k + 1 < N then s else L - k * s) (C - k * s), .bool (!decide (k + 1 < N))]) =
    (fun k => if k + 1 < N then #[Value.slice (some ⟨b, off + k * s, none⟩) s (C - k * s), .bool false] else #[Value.slice (some ⟨b, off + k * s, none⟩) (L - k * s) (C - k * s), .bool true]) := by
   funext k
   rw [e]
   by_cases hk : k + 1 < N <;> simp [hk]
  rw [he]
  exact pieces1 F n h23 hro hn x y b off L C s N hxy hLC hs hs2 hN0 hgo hst w hx hxf hy
end Go.Proofs.Ytfndcfffbpbbhaa.Q
