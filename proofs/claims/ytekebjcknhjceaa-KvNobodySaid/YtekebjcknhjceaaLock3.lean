/- Walk of (*lock.Table).Drop: the owner's locks go, and it tells how many. Condition: the table reads as a list of at most a million locks. -/
import Derived.Test.YtekebjcknhjceaaLock2
import Derived.Test.YtekebjcknhjceaaMapLibB
namespace Go.Proofs.Ytekebjcknhjceaa
open Go.RowKit Go.Mine
open Go.ChangeMaps (setBlock)
set_option linter.unusedVariables false
set_option linter.unusedSimpArgs false

def own (o : Int) (e : (Int × Int) × Bool × Nat) : Bool := e.1.2 == o
def dropL (o : Int) (L : Tab) : Tab := L.filter (fun e => !own o e)
def dropN (o : Int) (L : Tab) : Nat := (L.filter (own o)).length

def DropInv (o : Int) (L L1 left : Tab) (n : Int) : Prop :=
  dropL o L1 = dropL o L ∧ (∀ e ∈ L1, own o e = true → e ∈ left) ∧ n + (left.filter (own o)).length = dropN o L

theorem dropInv_start (o : Int) (L : Tab) : DropInv o L L L 0 := ⟨rfl, fun _ h _ => h, by simp [dropN]⟩
theorem dropInv_end {o : Int} {L L1 : Tab} {n : Int} (h : DropInv o L L1 [] n) : L1 = dropL o L ∧ n = dropN o L := by
  obtain ⟨h1, h2, h3⟩ := h
  refine ⟨?_, by simpa using h3⟩
  rw [← h1, dropL]
  symm
  rw [List.filter_eq_self]
  intro x hx
  cases ho : own o x
  · rfl
  · exact absurd (h2 x hx ho) (by simp)
theorem dropInv_keep {o : Int} {L L1 l1 l2 : Tab} {x : (Int × Int) × Bool × Nat} {n : Int} (h : DropInv o L L1 (l1 ++ x :: l2) n) (hx : own o x = false) : DropInv o L L1 (l1 ++ l2) n := by
  obtain ⟨h1, h2, h3⟩ := h
  refine ⟨h1, fun e he ho => ?_, ?_⟩
  · have := h2 e he ho
    simp only [List.mem_append, List.mem_cons] at this ⊢
    rcases this with h | h | h
    · exact .inl h
    · subst h; rw [hx] at ho; cases ho
    · exact .inr h
  · simpa [List.filter_append, List.filter_cons, hx] using h3
theorem dropInv_del {o : Int} {L L1 l1 l2 : Tab} {x : (Int × Int) × Bool × Nat} {n : Int} (h : DropInv o L L1 (l1 ++ x :: l2) n) (hx : own o x = true) : DropInv o L (mdel x.1 L1) (l1 ++ l2) (n + 1) := by
  obtain ⟨h1, h2, h3⟩ := h
  refine ⟨?_, fun e he ho => ?_, ?_⟩
  · rw [← h1, dropL, dropL, mdel, List.filter_filter]
    apply List.filter_congr
    intro e _
    by_cases q : e.1 = x.1
    · have : own o e = true := by simp only [own] at hx ⊢; rw [q]; exact hx
      simp [this]
    · simp [q]
  · have hm := List.mem_filter.1 he
    have := h2 e hm.1 ho
    simp only [List.mem_append, List.mem_cons] at this ⊢
    rcases this with h | h | h
    · exact .inl h
    · subst h; simp at hm
    · exact .inr h
  · simp only [List.filter_append, List.filter_cons, hx, if_true, List.length_append, List.length_cons] at h3 ⊢
    omega

def DropPost (L : Tab) (o : Int) (b c : Nat) (w : World) (e : Ending) (w' : World) : Prop :=
  e = .returned (.tuple #[.int .i64 (dropN o L), .int .i64 0]) ∧ MapAt eK2 Value.bool w' b (dropL o L) c ∧ Fr (· = b) w w'

attribute [local go_sem] eK2 in
set_option maxHeartbeats 1000000 in
theorem drop_some (b0 off : Nat) (b c : Nat) (L : Tab) (o : Int) (w : World) (hc0 : w.cell? ⟨b0, off, none⟩ = some (.map (some b))) (hm : MapAt eK2 Value.bool w b L c) (hsz : L.length ≤ 1000000) :
    Calls Try.prog 43 #[.pointer (some ⟨b0, off, none⟩), .int .i64 o] w (DropPost L o b c w) := by
  have hb0 : b0 < w.heap.size := World.block_lt_of_cell? _ _ hc0
  have hne : b0 ≠ b := by
    rintro rfl
    have := hm.heap
    simp [World.cell?, this] at hc0
  go_enter Try.func43, Try.ntmps43
  go_wp2_with (at_range; refine wl_range rfl rfl Try.underlying65 rfl hm w.heap.size rfl ?_; intro w2 hi2 f2 s2)
  go_frame
  go_loopg [6] (L.length + 1) (fun n v wr => ∃ left L1 m, n = left.length + 1 ∧ v = .int .i64 m ∧ 0 ≤ m ∧ MapAt eK2 Value.bool wr b L1 c ∧ IterAt wr w.heap.size b c L1 left ∧ DropInv o L L1 left m ∧ Fr (· = b) w wr)
  case atStart => exact ⟨L, L, 0, rfl, rfl, Int.le_refl _, hm.fr f2 id, hi2, dropInv_start o L, f2.mono (fun _ h => h.elim)⟩
  case round =>
    obtain ⟨left, L1, m, hn, rfl, hm0, hmr, hir, hinv, fr⟩ := hrel
    have HN := hid hn
    have HI := hid hinv
    have hm1 : m ≤ 1000000 := by
      have := hinv.2.2
      have : dropN o L ≤ L.length := List.length_filter_le _ _
      omega
    clear hn hinv
    go_wp2_with (at_next; refine wl_next2 rfl rfl rfl hmr hir (fun hnil => ?_) (fun k' a' st l1 l2 hl w3 hxL hm3 hi3 hen f3 s3 => ?_))
    · refine stop ?_
      go_wp2
      go_ret2
      have h0 := hnil.out
      subst h0
      obtain ⟨e1, e2⟩ := dropInv_end HI.out
      refine ⟨?_, e1 ▸ hmr, fr⟩
      rw [← e2]
      rfl
    · refine stop ?_
      have hL := hl.out
      subst hL
      have fr3 : Fr (· = b) w w3 := fr.trans f3 (by intro i hi; right; omega)
      have hcr3 := fr3.cell hc0 hne
      have hrb := hi3.ne hm3
      cases ho : (k'.2 == o)
      rotate_left
      · go_wp2
        have hmA : MapAt eK2 Value.bool (w3.alloc (.cells #[.int .i64 k'.1, .int .i64 k'.2] 101)).drew b L1 c := hm3.fr ((Fr.refl (fun _ => False) w3).alloc _).drew id
        have hiA : IterAt (w3.alloc (.cells #[.int .i64 k'.1, .int .i64 k'.2] 101)).drew w.heap.size b c L1 (l1 ++ l2) := hi3.fr ((Fr.refl (fun _ => False) w3).alloc _).drew id
        obtain ⟨w4, hrun, hm4, f4, s4⟩ := run_delete (P := Try.prog) (ty := 0) Try.underlying65 key53 hmA k'
        simp only [eK2] at hrun
        have hcA := ((Fr.refl (fun _ => False) w3).alloc (.cells #[.int .i64 k'.1, .int .i64 k'.2] 101)).cell hcr3 id
        have fA : Fr (· = b) w w4 := (fr3.alloc _).drew.trans f4 (by intro i hi; left; exact hi)
        have hi4 := (hiA.del k' (hir.fresh hmr.ok)).fr f4 (by simpa using hrb)
        have HI4 := hid hi4
        clear hi4 hiA hmA
        go_region
        all_goals
          go_wp2
          go_roundg ((l1 ++ l2).length + 1)
          case measure => rw [HN.out]; simp
          case rel => exact ⟨_, _, _, rfl, rfl, by omega, hm4, HI4.out, dropInv_del HI.out (by simpa only [own] using ho), fA⟩
      · go_wp2
        go_roundg ((l1 ++ l2).length + 1)
        case measure => rw [HN.out]; simp
        case rel => exact ⟨_, _, _, rfl, rfl, hm0, hm3.fr ((Fr.refl (fun _ => False) w3).alloc _) id, hi3.fr ((Fr.refl (fun _ => False) w3).alloc _) id, dropInv_keep HI.out (by simpa only [own] using ho), fr3.alloc _⟩
end Go.Proofs.Ytekebjcknhjceaa
