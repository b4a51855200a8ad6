/- Walks of the resources' Image, and of its nil. Conditions: the resources read as RX says. -/
import Derived.Test.YtdejbinmnoabeaaRzF
import Derived.Test.YtdejbinmnoabeaaKvP
import Derived.Laws.Rows
namespace Go.Proofs.Ytdejbinmnoabeaa
open Go.RowKit Go.Mine Go.Proofs.YtdejbinmnoabeaaW.PrintWords
set_option linter.unusedVariables false
set_option linter.unusedSimpArgs false
def encP (p : Int × Int) : List Value := [.int .i64 p.1, .int .u64 p.2]
def eP : Q.Enc (Int × Int) := ⟨2, encP, fun _ => rfl, fun x u hu => by simp [encP] at hu; rcases hu with rfl | rfl <;> rfl⟩
abbrev PairAt (w : World) (B : Nat) (A : Option Addr) (l : List (Int × Int)) : Prop := Q.RowAt encP 2 w B A l
abbrev UAt (w : World) (B : Nat) (A : Option Addr) (l : List Int) : Prop := Q.UAt w B A l
structure Img where
  P : List (Int × Int)
  L : List Int
  nx : Int
/-- A value that is an image. -/
def ImgAt (w : World) (B : Nat) (v : Value) (m : Img) : Prop :=
  ∃ A1 c1 A2 c2, v = .agg #[.slice A1 m.P.length c1, .slice A2 m.L.length c2, .int .i64 m.nx] ∧ PairAt w B A1 m.P ∧ UAt w B A2 m.L ∧ m.P.length ≤ c1 ∧ m.L.length ≤ c2
theorem ImgAt.below {w w' : World} {B : Nat} {v : Value} {m : Img} (h : ImgAt w B v m) (hb : Below B w w') : ImgAt w' B v m := by
  obtain ⟨A1, c1, A2, c2, e, h1, h2, h3, h4⟩ := h
  exact ⟨A1, c1, A2, c2, e, Q.RowAt.below h1 hb, Q.RowAt.below h2 hb, h3, h4⟩
theorem ImgAt.up {w : World} {B B' : Nat} {v : Value} {m : Img} (h : ImgAt w B v m) (hb : B ≤ B') : ImgAt w B' v m := by
  obtain ⟨A1, c1, A2, c2, e, h1, h2, h3, h4⟩ := h
  exact ⟨A1, c1, A2, c2, e, Q.RowAt.up h1 hb, Q.RowAt.up h2 hb, h3, h4⟩
def pairsK (k : KS) (i : Nat) : List (Int × Int) := (fillL k.vs k.th i).map (fun c => (c.key, c.val))
def imgR (s : RM) : Img := ⟨pairsK s.k 16, s.q.its.map (·.val), s.q.gv + 1⟩
theorem pairsK_true {k : KS} {i : Nat} (h : k.th.getD i false = true) : pairsK k (i + 1) = pairsK k i ++ [((i : Int), k.vs.getD i 0)] := by
  unfold pairsK fillL
  rw [fillP_true h, List.map_append, List.map_append]
  rfl
theorem pairsK_false {k : KS} {i : Nat} (h : k.th.getD i false = false) : pairsK k (i + 1) = pairsK k i := by
  unfold pairsK fillL
  rw [fillP_false h]
theorem pairsK_len (k : KS) (i : Nat) : (pairsK k i).length ≤ i := by
  unfold pairsK fillL fillP
  rw [List.length_map, List.length_map]
  exact Nat.le_trans (List.length_filter_le _ _) (by simp)
theorem info59 : (Try.prog.info? 59).map (fun i => (i.zero, i.size, i.bytes)) = some (some (.agg #[.int .i64 0, .int .u64 0]), 2, 16) := by kernel_rfl
theorem image_nil (w : World) : Calls Try.prog 19 #[.pointer none] w fun e w' => e = .returned (.agg #[.slice none 0 0, .slice none 0 0, .int .i64 0]) ∧ Below w.heap.size w w' := by
  go_enter Try.func19, Try.ntmps19
  go_wp2_with fail
  have hb : (w.alloc (.cells #[.slice none 0 0, .slice none 0 0, .int .i64 0] 49)).heap[w.heap.size]? = some (.cells #[.slice none 0 0, .slice none 0 0, .int .i64 0] 49 (0, 0)) := (MapKept.heap_alloc w _).1
  refine bodyPost_ret (results_cell_row rfl _ _ w.heap.size 49 #[.slice none 0 0, .slice none 0 0, .int .i64 0] (0, 0) _ rfl ?_ Try.underlying49 rfl (by kernel_rfl)) rfl ?_
  · first | exact hb | trace_state
  · exact ⟨rfl, by first | exact (Below.refl _ _).alloc (Nat.le_refl _) _ | trace_state⟩
theorem row_keep {w w1 : World} {base : Nat} {v : Value} {l : List (Int × Int)} (h : eP.kd.R 59 w base (fun _ => True) v l) (hm : ∀ k, v.ownBlock = some k → w1.heap[k]? = w.heap[k]?) : eP.kd.R 59 w1 base (fun _ => True) v l := by
  obtain ⟨h0, inner, ho, hr⟩ := h
  exact ⟨h0, inner, own_move ho hm, hr⟩
/-- An image whose rows are new. -/
def ImgNew (B0 : Nat) (w : World) (v : Value) (m : Img) : Prop :=
  ∃ A1 c1 A2 c2, v = .agg #[.slice A1 m.P.length c1, .slice A2 m.L.length c2, .int .i64 m.nx] ∧ PairAt w w.heap.size A1 m.P ∧ UAt w w.heap.size A2 m.L ∧ m.P.length ≤ c1 ∧ m.L.length ≤ c2 ∧ (∀ k off, A1 = some ⟨k, off, none⟩ → B0 ≤ k) ∧ (∀ k off, A2 = some ⟨k, off, none⟩ → B0 ≤ k)
theorem ImgNew.at_ {B0 : Nat} {w : World} {v : Value} {m : Img} (h : ImgNew B0 w v m) : ImgAt w w.heap.size v m := by
  obtain ⟨A1, c1, A2, c2, e, h1, h2, h3, h4, _⟩ := h
  exact ⟨A1, c1, A2, c2, e, h1, h2, h3, h4⟩
end Go.Proofs.Ytdejbinmnoabeaa
