/- Walk of trothlaw13.KvAlone: it answers true. Condition: the calls' slice reads as its list. -/
import Derived.Test.YtekebjcknhjceaaKvL2
namespace Go.Mine
set_option linter.unusedVariables false
set_option linter.unusedSimpArgs false
theorem takeA_ok {A : LTab} {o k : Int} {al : Bool} (h : (takeA A o k al).1 = 0) : (takeA A o k al).2 = aput (k, o) ((aget (k, o) A).getD false || al) A := by
  unfold takeA at h ⊢
  split at h
  · cases h
  · rename_i h1
    rw [if_neg h1]
    split at h
    · cases h
    · rename_i h2
      rw [if_neg h2]
theorem twice {A : LTab} {o k : Int} {al : Bool} (hA : Right A) (h1 : aget (k, o) A = some true) : (takeA A o k al).1 = 0 := by
  have hm := aget_mem h1
  have hno : A.any (confA o k al ((aget (k, o) A).getD false)) = false := by
    rw [List.any_eq_false]
    intro e he hc
    simp only [confA, Bool.and_eq_true, beq_iff_eq, bne_iff_ne] at hc
    have := hA.clash _ hm e he hc.1.1.symm (fun q => hc.1.2 q.symm)
    cases this
  have hs : (aget (k, o) A).isSome = true := by rw [h1]; rfl
  unfold takeA
  rw [if_neg (by simp [hno]), if_neg (by simp [hs])]
theorem nobody {A : LTab} {o p k : Int} {al : Bool} (h1 : aget (k, o) A = some true) (hp : o ≠ p) : takeA A p k al = (120, A) := by
  have hm := aget_mem h1
  have hno : A.any (confA p k al ((aget (k, p) A).getD false)) = true := by
    rw [List.any_eq_true]
    exact ⟨_, hm, by simp [confA, hp]⟩
  unfold takeA
  rw [if_pos hno]
theorem touch_keep {s : KS} {n k : Int} {al : Bool} (h : (s.touch n k al).1 ≠ 0) : (s.touch n k al).2 = s := by
  unfold KS.touch at h ⊢
  split
  · rfl
  · rename_i h1
    rw [if_neg h1] at h
    split
    · rfl
    · rename_i h2
      rw [if_neg h2] at h
      split
      · rfl
      · rename_i h3
        rw [if_neg h3] at h
        exact absurd rfl h
/-- A key that another one holds alone is refused. -/
theorem touch_other {s : KS} {o p k : Int} {al : Bool} (h : aget (k, o) s.lk = some true) (hp : o ≠ p) : (s.touch p k al).1 ≠ 0 := by
  unfold KS.touch
  split
  · exact fun q => by cases q
  · split
    · exact fun q => by cases q
    · rw [nobody h hp]
      simp
theorem change_other {s : KS} {o p : Int} {c : Ch} (h : aget (c.key, o) s.lk = some true) (hp : o ≠ p) : ∃ a, s.change p c = (a, s) ∧ a ≠ 0 := by
  have h1 := touch_other (al := true) h hp
  refine ⟨(s.touch p c.key true).1, ?_, h1⟩
  unfold KS.change
  simp only
  rw [if_pos h1, touch_keep h1]
theorem get_other {s : KS} {o p k : Int} (h : aget (k, o) s.lk = some true) (hp : o ≠ p) : ∃ a, s.get p k = ((0, false, a), s) ∧ a ≠ 0 := by
  have h1 := touch_other (al := false) h hp
  refine ⟨(s.touch p k false).1, ?_, h1⟩
  unfold KS.get
  simp only
  rw [if_pos h1, touch_keep h1]
theorem change_zero {s : KS} {n : Int} {c : Ch} (h : (s.change n c).1 = 0) : (s.touch n c.key true).1 = 0 := by
  by_cases h0 : (s.touch n c.key true).1 = 0
  · exact h0
  · unfold KS.change at h
    simp only at h
    rw [if_pos h0] at h
    exact h
theorem change_lock {s : KS} (hs : s.Ok) {n : Int} {c : Ch} (h : (s.change n c).1 = 0) : aget (c.key, n) (s.change n c).2.lk = some true := by
  have h0 := change_zero h
  obtain ⟨_, _, _, _, h5, h6⟩ := touch_zero h0
  have e : (s.change n c).2.lk = (takeA s.lk n c.key true).2 := by
    unfold KS.change
    simp only
    rw [if_neg (by simp [h0]), h6]
  rw [e, takeA_ok h5, aget_put_self _ _ hs.rk.keys, Bool.or_true]
theorem find_put (c : Ch) (l : List Ch) : (putCh c l).find? (fun d => d.key == c.key) = some c := by
  unfold putCh
  cases hq : chAt c.key l with
  | none =>
    rw [List.find?_append]
    have : l.find? (fun d => d.key == c.key) = none := by
      rw [List.find?_eq_none]
      intro x hx
      simpa using chAt_none hq x hx
    rw [this]
    simp
  | some i =>
    unfold chAt at hq
    rw [List.findIdx?_eq_some_iff_getElem] at hq
    obtain ⟨hi, h1, h2⟩ := hq
    show (l.set i c).find? (fun d => d.key == c.key) = some c
    rw [List.find?_eq_some_iff_getElem]
    refine ⟨by simp, i, by simpa using hi, by simp, fun j hj => ?_⟩
    have := h2 j hj
    rw [List.getElem_set_ne (by omega)]
    simpa using this
theorem change_work {s : KS} (hs : s.Ok) {n : Int} {c : Ch} (h : (s.change n c).1 = 0) : ∃ l, aget n (s.change n c).2.ws = some ⟨putCh c l, false⟩ := by
  have h0 := change_zero h
  refine ⟨(s.touch n c.key true).2.listOf n, ?_⟩
  unfold KS.change
  simp only
  rw [if_neg (by simp [h0])]
  exact aget_put_self _ _ (hs.touch n c.key true).keys
/-- What a work has changed it sees. -/
theorem get_own {s : KS} (hs : s.Ok) {n : Int} {c : Ch} (h : (s.change n c).1 = 0) (hc : c.kind = 1 ∨ (c.kind = 2 ∧ c.val = 0)) : ((s.change n c).2.get n c.key).1 = (c.val, c.kind == 1, 0) := by
  have h0 := touch_zero (change_zero h)
  obtain ⟨l, hw⟩ := change_work hs h
  have hlk := change_lock hs h
  have hok := hs.change n c hc
  generalize (s.change n c).2 = s1 at *
  have ht : (s1.touch n c.key false).1 = 0 ∧ aget n (s1.touch n c.key false).2.ws = some ⟨putCh c l, false⟩ := by
    unfold KS.touch
    rw [if_neg (by omega), if_neg (by rw [hw]; simp), if_neg (by rw [twice hok.rk hlk]; simp)]
    refine ⟨rfl, ?_⟩
    simp only [hw, Option.isSome_some, if_true]
  unfold KS.get
  simp only
  rw [if_neg (by simp [ht.1])]
  have hl : (s1.touch n c.key false).2.listOf n = putCh c l := by unfold KS.listOf; rw [ht.2]; rfl
  unfold seenV
  rw [hl, find_put]
end Go.Mine
namespace Go.Proofs.Ytekebjcknhjceaa
open Go.RowKit Go.Mine Go.Proofs.YtekebjcknhjceaaW.PrintWords
set_option linter.unusedVariables false
set_option linter.unusedSimpArgs false

theorem playK_ok (l : List KOp) : (playK l).Ok := by
  unfold playK
  generalize l.take 60 = m
  have : ∀ (m : List KOp) {s : KS}, s.Ok → (m.foldl stepK s).Ok := by
    intro m
    induction m with
    | nil => intro s h; exact h
    | cons x xs ih =>
      intro s h
      refine ih ?_
      unfold stepK
      split
      · exact h.call x
      · exact h
  exact this m KS.Ok.new

set_option maxRecDepth 100000 in
set_option maxHeartbeats 4000000 in
theorem alone_any (A : Option Addr) (l : List KOp) (c : Nat) (one two key val : Int) (w : World) (hl : OpsAt w w.heap.size A l) :
    Calls Try.prog 4 #[.slice A l.length c, .int .i64 one, .int .i64 two, .int .i64 key, .int .u64 val] w fun e w' => e = .returned (.bool true) ∧ Below w.heap.size w w' := by
  go_enter Try.func4, Try.ntmps4
  go_wp2_with fail
  refine (played_any A l c _ w (Nat.le_refl _) hl).mono ?_
  rintro e w1 ⟨b0, rfl, t1, f1⟩
  have hok := playK_ok l
  generalize playK l = s at *
  by_cases h12 : one = two
  · have d : (one == two) = true := by simpa using h12
    clear h12
    go_wp2_with fail
    refine (alive_any _).mono ?_
    rintro e w3 ⟨rfl, f3⟩
    go_wp2_with fail
    go_ret
    exact ⟨rfl, f1.trans (f3.mono f1.size)⟩
  · have d : (one == two) = false := by simpa using h12
    have H12 := hid h12
    clear h12
    go_wp2_with fail
    refine (put_st t1 one key val).mono ?_
    rintro e w2 ⟨rfl, t2, f2⟩
    have g2 := f1.trans f2
    cases hz : ((s.change one ⟨1, key, val⟩).1 != 0)
    · have h0 : (s.change one ⟨1, key, val⟩).1 = 0 := by simpa using hz
      have hlk := change_lock hok h0
      have hown := get_own hok h0 (.inl rfl)
      have hlk' : aget (key, one) (s.change one ⟨1, key, val⟩).2.lk = some true := hlk
      have hown' : ((s.change one ⟨1, key, val⟩).2.get one key).1 = (val, true, 0) := hown
      generalize (s.change one ⟨1, key, val⟩).2 = s1 at *
      generalize (s.change one ⟨1, key, val⟩).1 = e1 at *
      obtain ⟨a3, ha3, hn3⟩ := change_other (c := ⟨1, key, IntKind.u64.wrap (val + 1)⟩) hlk' H12.out
      obtain ⟨a4, ha4, hn4⟩ := change_other (c := ⟨2, key, 0⟩) hlk' H12.out
      obtain ⟨a5, ha5, hn5⟩ := get_other hlk' H12.out
      have d3 : (a3 != 0) = true := by simpa using hn3
      have d4 : (a4 != 0) = true := by simpa using hn4
      have d5 : (a5 != 0) = true := by simpa using hn5
      have d6 : (val == val) = true := by simp
      have c3 := put_st t2 two key (IntKind.u64.wrap (val + 1))
      rw [ha3] at c3
      have HA4 := hid ha4
      have HA5 := hid ha5
      have HOW := hid hown'
      clear ha3 ha4 ha5 hn3 hn4 hn5 hlk hlk' hown hown' hok h0
      go_wp2_with fail
      refine c3.mono ?_
      clear c3
      rintro e w3 ⟨rfl, t3, f3⟩
      have g3 := g2.trans f3
      go_wp2_with fail
      have c4 := del_st t3 two key
      rw [HA4.out] at c4
      refine c4.mono ?_
      clear c4
      rintro e w4 ⟨rfl, t4, f4⟩
      have g4 := g3.trans f4
      go_wp2_with fail
      have c5 := get_st t4 two key
      rw [HA5.out] at c5
      refine c5.mono ?_
      clear c5
      rintro e w5 ⟨rfl, t5, f5⟩
      have g5 := g4.trans f5
      go_wp2_with fail
      have c6 := get_st t5 one key
      rw [HOW.out] at c6
      refine c6.mono ?_
      clear c6
      rintro e w6 ⟨rfl, t6, f6⟩
      have g6 := g5.trans f6
      go_wp2_with fail
      refine (alive_any _).mono ?_
      rintro e w7 ⟨rfl, f7⟩
      go_wp2_with fail
      go_ret
      exact ⟨rfl, g6.trans (f7.mono g6.size)⟩
    · go_wp2_with fail
      refine (alive_any _).mono ?_
      rintro e w3 ⟨rfl, f3⟩
      go_wp2_with fail
      go_ret
      exact ⟨rfl, g2.trans (f3.mono g2.size)⟩
end Go.Proofs.Ytekebjcknhjceaa
