/- The contracts of the lock table over the plain list of locks, wherever the table lies. -/
import Derived.Test.YtekebjcknhjceaaLock3
import Derived.Test.YtekebjcknhjceaaLockA
namespace Go.Proofs.Ytekebjcknhjceaa
open Go.RowKit Go.Mine
open Go.ChangeMaps (setBlock)
set_option linter.unusedVariables false
set_option linter.unusedSimpArgs false

def grow (F : Nat → Prop) (w : World) : Nat → Prop := fun i => F i ∨ w.heap.size ≤ i

/-- A table (as list A) at cell 'off' of block b0, which holds the cells cs; its map lies among F. -/
def TabA (w : World) (b0 off : Nat) (cs : Array Value) (T : TypeId) (F : Nat → Prop) (A : LTab) : Prop := ∃ L, kv L = A ∧ TabAt w b0 off cs T F L

theorem takeSpec_A {L L' : Tab} {o k n : Int} {al : Bool} {c : Nat} (h : takeSpec L o k al c = (n, L')) : takeA (kv L) o k al = (n, kv L') := by
  have ha : (kv L).any (confA o k al ((aget (k, o) (kv L)).getD false)) = L.any (conf o k al ((mget (k, o) L).getD false)) := by
    rw [kv_get]; simp only [kv, List.any_map]; rfl
  unfold takeSpec at h
  unfold takeA
  rw [ha, ← kv_get, kv_length]
  split at h
  · rw [if_pos (by assumption)]; cases h; rfl
  · rw [if_neg (by assumption)]
    split at h
    · rw [if_pos (by assumption)]; cases h; rfl
    · rw [if_neg (by assumption)]; cases h; rw [kv_put]
theorem dropL_A (o : Int) (L : Tab) : kv (dropL o L) = dropA o (kv L) := kv_filter (fun e => !ownA o e) L
theorem dropN_A (o : Int) (L : Tab) : dropN o L = dropNA o (kv L) := by
  unfold dropN dropNA
  rw [← kv_length, ← kv_filter (ownA o) L]; rfl

theorem TabAt.cell {w : World} {b0 off : Nat} {cs : Array Value} {T : TypeId} {F : Nat → Prop} {L : Tab} {mo : Option Nat} (h0 : w.heap[b0]? = some (.cells cs T (0, 0))) (h1 : cs[off]? = some (.map mo)) : w.cell? ⟨b0, off, none⟩ = some (.map mo) := by
  rw [cell_of_row w b0 off cs T _ h0]; exact h1

theorem TabA.keys {w : World} {b0 off : Nat} {cs : Array Value} {T : TypeId} {F : Nat → Prop} {A : LTab} (h : TabA w b0 off cs T F A) : A.Pairwise (fun x y => x.1 ≠ y.1) := by
  obtain ⟨L, rfl, ⟨mo, _, _, hm, _⟩⟩ := h
  obtain ⟨c, ho⟩ := hm.ok
  exact kv_keys ho

/-- Take. -/
theorem take_A {b0 off : Nat} {cs : Array Value} {T : TypeId} {F : Nat → Prop} {A : LTab} {w : World} (h : TabA w b0 off cs T F A) (o k : Int) (al : Bool) :
    Calls Try.prog 42 #[.pointer (some ⟨b0, off, none⟩), .int .i64 o, .int .i64 k, .bool al] w fun e w' =>
      e = .returned (.int .i64 (takeA A o k al).1) ∧ (∃ mo', TabA w' b0 off (cs.setIfInBounds off (.map mo')) T (grow F w) (takeA A o k al).2) ∧ Fr (fun i => i = b0 ∨ F i) w w' := by
  obtain ⟨L, rfl, ⟨mo, h0, h1, hm, hF⟩⟩ := h
  cases mo with
  | none =>
    have : L = [] := hm
    subst this
    refine (take_none b0 off o k al w cs T F h0 h1).mono ?_
    rintro e w' ⟨n, c, L', mo', hs, he, ht, hf⟩
    rw [takeSpec_A hs]
    exact ⟨he, ⟨mo', L', rfl, ht⟩, hf⟩
  | some b =>
    obtain ⟨c, hm⟩ := hm
    have hc0 := TabAt.cell (F := F) (L := L) h0 h1
    have hne : b0 ≠ b := by
      rintro rfl
      have := hm.heap
      rw [h0] at this
      cases this
    refine (take_some b0 off b c L o k al w hc0 hm).mono ?_
    rintro e w' ⟨n, L', c', hs, he, ht, hf⟩
    rw [takeSpec_A hs]
    have hcs : cs.setIfInBounds off (.map (some b)) = cs := by
      apply Array.ext_getElem?
      intro i
      rw [Array.getElem?_setIfInBounds]
      split
      · rename_i q; subst q
        have : off < cs.size := (Array.getElem?_eq_some_iff.1 h1).1
        rw [if_pos this, h1]
      · rfl
    refine ⟨he, ⟨some b, L', rfl, ⟨some b, ?_, ?_, ⟨c', ht⟩, fun b' hb' => .inl (hF b' hb')⟩⟩, hf.mono (fun i hi => .inr (by rw [hi]; exact hF b rfl))⟩
    · rw [hcs]; exact hf.at_ h0 hne
    · rw [hcs]; exact h1

set_option maxHeartbeats 400000 in
theorem drop_none (b0 off : Nat) (o : Int) (w : World) (hc0 : w.cell? ⟨b0, off, none⟩ = some (.map none)) :
    Calls Try.prog 43 #[.pointer (some ⟨b0, off, none⟩), .int .i64 o] w fun e w' => e = .returned (.tuple #[.int .i64 0, .int .i64 0]) ∧ Fr (fun _ => False) w w' := by
  have hrn := run_range_nil Try.underlying65 w
  go_enter Try.func43, Try.ntmps43
  go_wp2
  refine wp_loop_once ?_
  go_wp2_with (at_next; refine wl_next_nil rfl rfl (r := w.heap.size) rfl (by exact heap_last _ _ rfl) ?_)
  refine stop ?_
  go_wp2
  go_ret2
  exact ⟨rfl, (Fr.refl _ _).alloc _⟩

theorem drop_nil (o : Int) (w : World) :
    Calls Try.prog 43 #[.pointer none, .int .i64 o] w fun e w' => e = .returned (.tuple #[.int .i64 0, .int .i64 6]) ∧ w' = w := by
  go_enter Try.func43, Try.ntmps43
  go_wp2
  go_ret2
  exact ⟨rfl, rfl⟩

theorem drop_A {b0 off : Nat} {cs : Array Value} {T : TypeId} {F : Nat → Prop} {A : LTab} {w : World} (h : TabA w b0 off cs T F A) (hr : A.length ≤ 1000000) (o : Int) :
    Calls Try.prog 43 #[.pointer (some ⟨b0, off, none⟩), .int .i64 o] w fun e w' =>
      e = .returned (.tuple #[.int .i64 (dropNA o A), .int .i64 0]) ∧ TabA w' b0 off cs T F (dropA o A) ∧ Fr F w w' := by
  obtain ⟨L, rfl, ⟨mo, h0, h1, hm, hF⟩⟩ := h
  have hc0 := TabAt.cell (F := F) (L := L) h0 h1
  cases mo with
  | none =>
    have : L = [] := hm
    subst this
    refine (drop_none b0 off o w hc0).mono ?_
    rintro e w' ⟨he, hf⟩
    exact ⟨he, ⟨[], rfl, ⟨none, hf.at_ h0 id, h1, rfl, fun _ h => by cases h⟩⟩, hf.mono (fun _ h => h.elim)⟩
  | some b =>
    obtain ⟨c, hm⟩ := hm
    have hne : b0 ≠ b := by
      rintro rfl
      have := hm.heap
      rw [h0] at this
      cases this
    refine (drop_some b0 off b c L o w hc0 hm (by rw [← kv_length]; exact hr)).mono ?_
    rintro e w' ⟨he, ht, hf⟩
    rw [← dropN_A]
    exact ⟨he, ⟨dropL o L, dropL_A o L, ⟨some b, hf.at_ h0 hne, h1, ⟨c, ht⟩, hF⟩⟩, hf.mono (fun i hi => by rw [hi]; exact hF b rfl)⟩

theorem TabA.fr {S : Nat → Prop} {w w' : World} {b0 off : Nat} {cs : Array Value} {T : TypeId} {F : Nat → Prop} {A : LTab} (h : TabA w b0 off cs T F A) (hf : Fr S w w') (hb : ¬ S b0) (hS : ∀ i, F i → ¬ S i) : TabA w' b0 off cs T F A := by
  obtain ⟨L, rfl, ⟨mo, h0, h1, hm, hF⟩⟩ := h
  exact ⟨L, rfl, ⟨mo, hf.at_ h0 hb, h1, hm.fr hf (fun b q => hS b (hF b q)), hF⟩⟩
theorem TabA.mono {w : World} {b0 off : Nat} {cs : Array Value} {T : TypeId} {F F' : Nat → Prop} {A : LTab} (h : TabA w b0 off cs T F A) (hF' : ∀ i, F i → F' i) : TabA w b0 off cs T F' A := by
  obtain ⟨L, rfl, ⟨mo, h0, h1, hm, hF⟩⟩ := h
  exact ⟨L, rfl, ⟨mo, h0, h1, hm, fun b q => hF' b (hF b q)⟩⟩
end Go.Proofs.Ytekebjcknhjceaa
