/- Walks of trothlaw12.alive (true) and trothlaw12.played (the table is what the calls make). -/
import Derived.Test.YtgfiifhnnjammaaLock4
namespace Go.Proofs.Ytgfiifhnnjammaa
open Go.RowKit Go.Mine
set_option linter.unusedVariables false
set_option linter.unusedSimpArgs false

/-- A table among the blocks from B on, and nothing else is turned. -/
def OT (B : Nat) (w : World) (b0 : Nat) (A : LTab) : Prop := Tbl w (fun i => B ≤ i) b0 A ∧ B ≤ w.heap.size
theorem OT.made (w : World) : OT w.heap.size (w.alloc (.cells #[.map none] 49)) w.heap.size [] := ⟨Tbl.made w, by simp⟩
theorem below_of {B : Nat} {w w' : World} (h : Fr (fun i => B ≤ i) w w') (hB : B ≤ w.heap.size) : Below B w w' := h.below hB (fun k hk q => by omega)
theorem OT.below {B B' : Nat} {w w' : World} {b0 : Nat} {A : LTab} (h : OT B w b0 A) (hb : Below B' w w') (hB : w.heap.size ≤ B') : OT B w' b0 A :=
  ⟨h.1.fr (Fr.of_below hb hB) (fun _ _ q => q), Nat.le_trans h.2 hb.size⟩
theorem take_o {B : Nat} {w : World} {b0 : Nat} {A : LTab} (h : OT B w b0 A) (o k : Int) (al : Bool) :
    Calls Try.prog 12 #[.pointer (some ⟨b0, 0, none⟩), .int .i64 o, .int .i64 k, .bool al] w fun e w' => e = .returned (.int .i64 (takeA A o k al).1) ∧ OT B w' b0 (takeA A o k al).2 ∧ Below B w w' := by
  refine (take_t h.1 o k al).mono ?_
  rintro e w' ⟨he, ht, hf⟩
  exact ⟨he, ⟨ht.mono (fun i hi => hi.elim id (fun q => Nat.le_trans h.2 q)), Nat.le_trans h.2 hf.size⟩, below_of hf h.2⟩
theorem drop_o {B : Nat} {w : World} {b0 : Nat} {A : LTab} (h : OT B w b0 A) (hr : A.length ≤ 1000000) (o : Int) :
    Calls Try.prog 16 #[.pointer (some ⟨b0, 0, none⟩), .int .i64 o] w fun e w' => e = .returned (.tuple #[.int .i64 (dropNA o A), .int .i64 0]) ∧ OT B w' b0 (dropA o A) ∧ Below B w w' := by
  refine (drop_t h.1 hr o).mono ?_
  rintro e w' ⟨he, ht, hf⟩
  exact ⟨he, ⟨ht, Nat.le_trans h.2 hf.size⟩, below_of hf h.2⟩

set_option maxHeartbeats 1000000 in
theorem alive_any (w : World) : Calls Try.prog 11 #[] w fun e w' => e = .returned (.bool true) ∧ Below w.heap.size w w' := by
  go_enter Try.func11, Try.ntmps11
  go_wp2_with fail
  refine (new_any w).mono ?_
  rintro e w1 ⟨rfl, rfl⟩
  have t1 := OT.made w
  have f1 : Below w.heap.size w (w.alloc (.cells #[.map none] 49)) := (Below.refl _ _).alloc (Nat.le_refl _) _
  generalize w.alloc (.cells #[.map none] 49) = w1 at t1 f1 ⊢
  go_wp2_with fail
  have c2 := take_o t1 1 5 false
  rw [show takeA [] 1 5 false = (0, [((5, 1), false)]) from by decide] at c2
  refine c2.mono ?_
  clear c2
  rintro e w2 ⟨rfl, t2, f2⟩
  go_wp2_with fail
  have c3 := take_o t2 2 5 false
  rw [show takeA [((5, 1), false)] 2 5 false = (0, [((5, 1), false), ((5, 2), false)]) from by decide] at c3
  refine c3.mono ?_
  clear c3
  rintro e w3 ⟨rfl, t3, f3⟩
  go_wp2_with fail
  have c4 := take_o t3 2 5 true
  rw [show takeA [((5, 1), false), ((5, 2), false)] 2 5 true = (120, [((5, 1), false), ((5, 2), false)]) from by decide] at c4
  refine c4.mono ?_
  clear c4
  rintro e w4 ⟨rfl, t4, f4⟩
  go_wp2_with fail
  have c5 := drop_o t4 (by decide) 1
  rw [show dropA 1 [((5, 1), false), ((5, 2), false)] = [((5, 2), false)] from by decide, show dropNA 1 [((5, 1), false), ((5, 2), false)] = 1 from by decide] at c5
  refine c5.mono ?_
  clear c5
  rintro e w5 ⟨rfl, t5, f5⟩
  go_wp2_with fail
  have c6 := take_o t5 2 5 true
  rw [show takeA [((5, 2), false)] 2 5 true = (0, [((5, 2), true)]) from by decide] at c6
  refine c6.mono ?_
  clear c6
  rintro e w6 ⟨rfl, t6, f6⟩
  go_wp2_with fail
  refine (len_t t6.1).mono ?_
  rintro e w7 ⟨rfl, rfl⟩
  go_wp2_with fail
  go_ret
  exact ⟨rfl, ((((f1.trans f2).trans f3).trans f4).trans f5).trans f6⟩

/-! ### What the calls' list does -/
structure OpT where
  kind : Int
  owner : Int
  key : Int
  alone : Bool
def encOp (x : OpT) : List Value := [.int .i64 x.kind, .int .i64 x.owner, .int .i64 x.key, .bool x.alone]
def stepA (A : LTab) (x : OpT) : LTab := if x.kind = 0 then (takeA A x.owner x.key x.alone).2 else dropA x.owner A
def playA (l : List OpT) : LTab := (l.take 100).foldl stepA []
theorem _root_.Go.Mine.Right.step {A : LTab} (h : Right A) (x : OpT) : Right (stepA A x) := by
  unfold stepA
  split
  · exact h.take _ _ _
  · exact h.drop _
theorem _root_.Go.Mine.Right.steps (l : List OpT) : ∀ {A : LTab}, Right A → Right (l.foldl stepA A) := by
  induction l with
  | nil => intro A h; exact h
  | cons x xs ih => intro A h; exact ih (h.step x)
theorem _root_.Go.Mine.Right.play (l : List OpT) : Right (playA l) := Right.steps _ Right.nil

/-- A slice of ops that came in. -/
def OpsAt (w : World) (B : Nat) (A : Option Addr) (l : List OpT) : Prop :=
  ∀ i x, l[i]? = some x → ∃ b off, A = some ⟨b, off, none⟩ ∧ b < B ∧ ∀ j v, (encOp x)[j]? = some v → w.cell? ⟨b, off + i * 4 + j, none⟩ = some v
theorem OpsAt.below {w w' : World} {B : Nat} {A : Option Addr} {l : List OpT} (h : OpsAt w B A l) (hb : Below B w w') : OpsAt w' B A l := by
  intro i x hx
  obtain ⟨b, off, e, hlt, hc⟩ := h i x hx
  exact ⟨b, off, e, hlt, fun j v hv => (hb.cell (p := ⟨b, off + i * 4 + j, none⟩) hlt).trans (hc j v hv)⟩

set_option maxHeartbeats 1000000 in
theorem played_any (A : Option Addr) (l : List OpT) (cap : Nat) (w : World) (B : Nat) (hB : B ≤ w.heap.size) (hl : OpsAt w B A l) (hcap : l.length ≤ 1000000000000000000) :
    Calls Try.prog 9 #[.slice A l.length cap] w fun e w' => ∃ b0, e = .returned (.pointer (some ⟨b0, 0, none⟩)) ∧ OT w.heap.size w' b0 (playA l) ∧ Below w.heap.size w w' := by
  go_enter Try.func9, Try.ntmps9
  go_wp2_with fail
  refine (new_any w).mono ?_
  rintro e w1 ⟨rfl, rfl⟩
  have t1 := OT.made w
  have f1 : Below w.heap.size w (w.alloc (.cells #[.map none] 49)) := (Below.refl _ _).alloc (Nat.le_refl _) _
  generalize w.alloc (.cells #[.map none] 49) = w1 at t1 f1 ⊢
  go_wp2_with fail
  go_loopg [4] 101 (fun n v wr => ∃ i : Nat, v = .int .i64 i ∧ i ≤ l.length ∧ i ≤ 100 ∧ n = 101 - i ∧ OT w.heap.size wr w.heap.size ((l.take i).foldl stepA []) ∧ Below w.heap.size w wr)
  case atStart => exact ⟨0, rfl, Nat.zero_le _, Nat.zero_le _, rfl, t1, f1⟩
  case round =>
    obtain ⟨i, rfl, hi1, hi2, hn, ht, hf⟩ := hrel
    have HN := hid hn
    clear hn
    have hlr := hl.below (hf.mono hB)
    by_cases h1 : i < l.length
    · by_cases h2 : (i : Int) < 100
      · obtain ⟨x, hx⟩ : ∃ x, l[i]? = some x := ⟨_, List.getElem?_eq_getElem h1⟩
        obtain ⟨b, off, rfl, hb, hc⟩ := hlr i x hx
        have k0 : wr.cell? ⟨b, off + i * 4, none⟩ = some (.int .i64 x.kind) := hc 0 _ rfl
        have k1 := hc 1 _ rfl
        have k2 := hc 2 _ rfl
        have k3 := hc 3 _ rfl
        have hst : (l.take (i + 1)).foldl stepA [] = stepA ((l.take i).foldl stepA []) x := by
          rw [List.take_succ_eq_append_getElem h1, List.foldl_append]
          have : l[i] = x := by rw [List.getElem?_eq_getElem h1] at hx; exact Option.some.inj hx
          simp [this]
        have HS := hid hst
        have HX := hid hx
        have hlen : ((l.take i).foldl stepA []).length ≤ 64 := (Right.steps (l.take i) Right.nil).len
        generalize (l.take i).foldl stepA [] = cur at *
        clear hc hlr hx hst hl
        cases hk : (x.kind == 0)
        · go_wp2_with fail
          refine (drop_o ht (by omega) x.owner).mono ?_
          rintro e w2 ⟨rfl, t2, f2⟩
          go_wp2_with fail
          go_roundg (101 - (i + 1))
          case measure => rw [HN.out]; omega
          case rel => exact ⟨i + 1, by go_num, by omega, by omega, rfl, by rw [HS.out]; simpa [stepA, show ¬ x.kind = 0 by simpa using hk] using t2, hf.trans (f2.mono (Nat.le_refl _))⟩
        · go_wp2_with fail
          go_still_tail 16, (by kernel_rfl)
          change wpList _ _ _ _ _ wr.drew
          have htd := ht.below (Below.refl wr.heap.size wr).drew (Nat.le_refl _)
          have hfd := hf.drew
          clear ht hf k0 k1 k2 k3
          generalize wr.drew = wd at htd hfd ⊢
          go_wp2_with fail
          refine (take_o htd x.owner x.key x.alone).mono ?_
          rintro e w2 ⟨rfl, t2, f2⟩
          go_wp2_with fail
          go_roundg (101 - (i + 1))
          case measure => rw [HN.out]; omega
          case rel => exact ⟨i + 1, by go_num, by omega, by omega, rfl, by rw [HS.out]; simpa [stepA, show x.kind = 0 by simpa using hk] using t2, hfd.trans (f2.mono (Nat.le_refl _))⟩
      · go_wp2_with fail
        go_ret
        have : i = 100 := by omega
        subst this
        exact ⟨_, rfl, ht, hf⟩
    · go_wp2_with fail
      go_ret
      have : i = l.length := by omega
      subst this
      refine ⟨_, rfl, ?_, hf⟩
      have e : l.take l.length = l.take 100 := by rw [List.take_of_length_le (Nat.le_refl _), List.take_of_length_le hi2]
      rw [e] at ht
      exact ht
end Go.Proofs.Ytgfiifhnnjammaa
