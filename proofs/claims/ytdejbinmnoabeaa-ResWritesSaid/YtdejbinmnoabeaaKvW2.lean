/- Walks of the store of keys: Get. Conditions: the store reads as KvAt Pz says. -/
import Derived.Test.YtdejbinmnoabeaaKvW1
namespace Go.Mine
theorem find_chAt {k : Int} {l : List Ch} {i : Nat} (h : chAt k l = some i) : l.find? (fun c => c.key == k) = l[i]? := by
  unfold chAt at h
  rw [List.findIdx?_eq_some_iff_getElem] at h
  obtain ⟨hi, h1, h2⟩ := h
  rw [List.getElem?_eq_getElem hi]
  rw [List.find?_eq_some_iff_getElem]
  exact ⟨h1, i, hi, rfl, fun j hj => by have := h2 j hj; simpa using this⟩
theorem find_chNone {k : Int} {l : List Ch} (h : chAt k l = none) : l.find? (fun c => c.key == k) = none := by
  unfold chAt at h
  rw [List.findIdx?_eq_none_iff] at h
  rw [List.find?_eq_none]
  intro x hx
  simpa using h x hx
end Go.Mine
namespace Go.Proofs.Ytdejbinmnoabeaa.K
variable {Pz : List Value}
open Go.RowKit Go.Mine Go.Proofs.YtdejbinmnoabeaaW.PrintWords
open Go.ChangeMaps (setBlock)
set_option linter.unusedVariables false
set_option linter.unusedSimpArgs false

theorem bdN (w : World) (n : Nat) : Below w.heap.size w (w.drewN n) := ⟨rfl, rfl, rfl, Nat.le_refl _, fun _ _ => rfl⟩
def GetPost (Pz : List Value) (F : Nat → Prop) (w : World) (b0 : Nat) (s : KS) (n key : Int) (e : Ending) (w' : World) : Prop :=
  ∃ F', e = .returned (.tuple #[.int .u64 (s.get n key).1.1, .bool (s.get n key).1.2.1, .int .i64 (s.get n key).1.2.2]) ∧ KvAt Pz F' w' b0 (s.get n key).2 ∧ Grew F F' w ∧ Fr F w w'
theorem get_bad {s : KS} {n key : Int} (h : (s.touch n key false).1 ≠ 0) : s.get n key = ((0, false, (s.touch n key false).1), (s.touch n key false).2) := by unfold KS.get; simp only; rw [if_pos h]
theorem get_good {s : KS} {n key : Int} (h : (s.touch n key false).1 = 0) : s.get n key = (((seenV (s.touch n key false).2 n key).1, (seenV (s.touch n key false).2 n key).2, 0), (s.touch n key false).2) := by unfold KS.get; simp only; rw [if_neg (by simp [h])]
theorem KvR.bcells {F : Nat → Prop} {w : World} {b0 : Nat} {vs : List Int} {th : List Bool} {lk : LTab} {I : List WI} {L : List (Int × Nat × Nat)} {mo lo : Option Nat} (h : KvR Pz F w b0 vs th lk I L mo lo) (k : Nat) (hk : k < 16) :
    w.cell? ⟨b0, k, none⟩ = some (.int .u64 (vs.getD k 0)) ∧ w.cell? ⟨b0, 16 + k, none⟩ = some (.bool (th.getD k false)) := by
  rw [cell_of_row w b0 k _ _ _ h.blk, cell_of_row w b0 (16 + k) _ _ _ h.blk]
  exact ⟨scv h.lv h.lth _ _ k hk, sct h.lv h.lth _ _ k hk⟩
theorem wk_list {F : Nat → Prop} {w : World} {b0 : Nat} {s : KS} {I1 I2 : List WI} {x : WI} {n : Int} (hok : s.Ok) (hws : s.ws = wsOf (I1 ++ x :: I2)) (hn : x.n = n) : aget n s.ws = some ⟨x.l, x.p⟩ := by
  apply aget_of_mem hok.keys
  rw [hws, wsOf]
  simp [← hn]

set_option maxRecDepth 100000 in
set_option maxHeartbeats 2000000 in
theorem get_any {F : Nat → Prop} {w : World} {b0 : Nat} {s : KS} (h : KvAt Pz F w b0 s) (n key : Int) :
    Calls Try.prog 54 #[.pointer (some ⟨b0, 0, none⟩), .int .i64 n, .int .i64 key] w (GetPost Pz F w b0 s n key) := by
  have ht := touch_any h n key false
  have HT := hid ht
  clear ht
  go_enter Try.func54, Try.ntmps54
  go_wp2_with fail
  refine HT.out.mono ?_
  rintro e w1 ⟨p, F1, rfl, h1, g1, f1, hw1⟩
  cases hz : ((s.touch n key false).1 != 0)
  · have h0 : (s.touch n key false).1 = 0 := by simpa using hz
    have HE := hid (get_good h0)
    have hk0 := (touch_zero h0).2.1
    have hk16 := (touch_zero h0).2.2.1
    obtain ⟨k, rfl⟩ := Int.eq_ofNat_of_zero_le hk0
    have hk : k < 16 := by omega
    obtain ⟨wb, rfl, hok, I1, x, I2, L, mo, lo, hR, hws, hxn, hxp, rfl⟩ := hw1 h0
    generalize (s.touch n (k : Int) false).2 = t at *
    generalize (s.touch n (k : Int) false).1 = e1 at *
    have hag := wk_list (F := F1) (w := w1) (b0 := b0) hok hws hxn
    have hli : t.listOf n = x.l := by simp [KS.listOf, hag]
    have hx := hR.wk x (by simp)
    have hlen := (hok.chs _ (aget_mem hag)).len
    have hc0 : w1.cell? ⟨x.wb, 0, none⟩ = some x.v := by rw [cell_of_row w1 x.wb 0 _ _ _ hx.2.1]; rfl
    have hat := at_any x.wb x.v x.l k w1 hc0 hx.2.2.1 (by simp at hlen; omega)
    have HAT := hid hat
    obtain ⟨A, c, hv, hAc, hch⟩ := hx.2.2.1.at_
    have HCH := hid hch
    have HR := hid hR
    have HLI := hid hli
    have hcells := hR.bcells k hk
    have HH1 := hid h1
    subst h0
    clear hat hw1 hws hok hxp hxn hag hx hch hR hli h1 hz
    go_wp2_with fail
    refine HAT.out.mono ?_
    rintro e w2 ⟨rfl, f2⟩
    have f12 : Fr F w w2 := f1.trans (Fr.of_below f2 (Nat.le_refl _)) (fun i q => q.elim)
    have h2 := HH1.out.below f2
    have hca : w2.cell? ⟨b0, k, none⟩ = some (.int .u64 (t.vs.getD k 0)) := (f2.cell (World.block_lt_of_cell? _ _ hcells.1)).trans hcells.1
    have hcb : w2.cell? ⟨b0, 16 + k, none⟩ = some (.bool (t.th.getD k false)) := (f2.cell (World.block_lt_of_cell? _ _ hcells.2)).trans hcells.2
    have hc2 : w2.cell? ⟨x.wb, 0, none⟩ = some x.v := (f2.cell (World.block_lt_of_cell? _ _ hc0)).trans hc0
    cases hq : chAt (k : Int) x.l with
    | none =>
      have hai : atI (k : Int) x.l = -1 := by simp [atI, hq]
      have HS : Hid (seenV t n k = (t.vs.getD k 0, t.th.getD k false)) := hid (by unfold seenV; rw [HLI.out, find_chNone hq]; rfl)
      rw [hai]
      have hki : (k : Int) < 16 := by omega
      clear hq hai hc0 hc2 hcells hv
      go_wp2_with fail
      go_quiet (fail)
      go_wp2_with fail
      go_ret3
      refine ⟨F1, ?_, ?_, g1, f12.drewN _⟩
      · rw [HE.out, HS.out]; rfl
      · rw [HE.out]; exact h2.below (bdN _ _)
    | some i =>
      obtain ⟨y, hy, hyk⟩ := chAt_some hq
      have hai : atI (k : Int) x.l = i := by simp [atI, hq]
      have HS : Hid (seenV t n k = (y.val, y.kind == 1)) := hid (by unfold seenV; rw [HLI.out, find_chAt hq, hy])
      rw [hai]
      have hil := (List.getElem?_eq_some_iff.1 hy).1
      obtain ⟨b, off, rfl, hb1, hcc⟩ := (HCH.out.below f2) i y hy
      have k0 : w2.cell? ⟨b, off + i * 3, none⟩ = some (.int .i64 y.kind) := hcc 0 _ rfl
      have k1 := hcc 1 _ rfl
      have k2 := hcc 2 _ rfl
      rw [hv] at hc2
      have hi1 : (i : Int) < x.l.length := by omega
      have hi0 : (0 : Int) ≤ i := by omega
      clear hq hai hc0 hcells hcc hy hyk hca hcb hv
      go_wp2_with fail
      go_quiet (fail)
      go_wp2_with fail
      go_ret3
      refine ⟨F1, ?_, ?_, g1, f12.drewN _⟩
      · rw [HE.out, HS.out]; rfl
      · rw [HE.out]; exact h2.below (bdN _ _)
  · have hne : (s.touch n key false).1 ≠ 0 := by simpa using hz
    have HE := hid (get_bad hne)
    clear hne
    go_wp2_with fail
    go_ret3
    refine ⟨F1, ?_, ?_, g1, f1⟩
    · rw [HE.out]; rfl
    · rw [HE.out]; exact h1
end Go.Proofs.Ytdejbinmnoabeaa.K
