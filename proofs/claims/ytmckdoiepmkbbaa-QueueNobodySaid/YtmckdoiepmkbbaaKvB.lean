/- The store of keys, plain: what every store is like, and stays. -/
import Derived.Test.YtmckdoiepmkbbaaKvA
namespace Go.Mine
set_option linter.unusedVariables false
set_option linter.unusedSimpArgs false

theorem rightL_spec : ∀ (l : List Ch) (seen : List Int), rightL l seen = true ↔ (∀ c ∈ l, chOk c = true) ∧ (l.map (·.key)).Nodup ∧ ∀ c ∈ l, c.key ∉ seen
  | [], seen => by simp [rightL]
  | c :: cs, seen => by
    rw [rightL, Bool.and_eq_true, Bool.and_eq_true, rightL_spec cs (c.key :: seen)]
    simp only [List.map_cons, List.nodup_cons, List.mem_cons, forall_eq_or_imp, List.mem_map, not_exists, not_and, not_or, Bool.not_eq_true', List.contains_eq_mem, decide_eq_false_iff_not]
    constructor
    · rintro ⟨⟨h1, h2⟩, h3, h4, h5⟩
      exact ⟨⟨h1, h3⟩, ⟨fun x hx he => (h5 x hx).1 he, h4⟩, h2, fun x hx => (h5 x hx).2⟩
    · rintro ⟨⟨h1, h3⟩, ⟨h6, h4⟩, h2, h5⟩
      exact ⟨⟨h1, h2⟩, h3, h4, fun x hx => ⟨fun he => h6 x hx he, h5 x hx⟩⟩
/-- Changes that may be a work's. -/
def RW (l : List Ch) : Prop := (∀ c ∈ l, chOk c = true) ∧ (l.map (·.key)).Nodup
theorem rw_iff (l : List Ch) : rightL l [] = true ↔ RW l := by rw [rightL_spec]; simp [RW]
theorem chOk_iff (c : Ch) : chOk c = true ↔ (c.kind = 1 ∨ (c.kind = 2 ∧ c.val = 0)) ∧ 0 ≤ c.key ∧ c.key < 16 := by
  unfold chOk
  simp only [Bool.not_eq_true', Bool.or_eq_false_iff, Bool.and_eq_false_iff, bne_eq_false_iff_eq, decide_eq_false_iff_not, Bool.or_eq_false_iff]
  constructor
  · rintro ⟨⟨h1, h2⟩, h3⟩
    exact ⟨h1, by omega, by omega⟩
  · rintro ⟨h1, h2, h3⟩
    exact ⟨⟨h1, by omega⟩, by omega⟩
theorem nodup_lt : ∀ (n : Nat) (l : List Int), l.Nodup → (∀ x ∈ l, 0 ≤ x ∧ x < n) → l.length ≤ n
  | 0, l, _, h => by
    cases l with
    | nil => simp
    | cons x xs => have := h x (by simp); omega
  | n + 1, l, hn, h => by
    have h1 : (l.erase n).length ≤ n := nodup_lt n (l.erase n) (hn.erase _) (fun x hx => by
      have h2 := h x (List.mem_of_mem_erase hx)
      have h3 : x ≠ n := fun e => by subst e; exact hn.not_mem_erase hx
      exact ⟨h2.1, by omega⟩)
    have h2 := List.length_erase_le (a := (n : Int)) (l := l)
    by_cases hm : (n : Int) ∈ l
    · rw [List.length_erase_of_mem hm] at h1; omega
    · rw [List.erase_of_not_mem hm] at h1; omega
theorem RW.len {l : List Ch} (h : RW l) : l.length ≤ 16 := by
  have := nodup_lt 16 (l.map (·.key)) h.2 (fun x hx => by
    obtain ⟨c, hc, rfl⟩ := List.mem_map.1 hx
    have := (chOk_iff c).1 (h.1 c hc)
    exact ⟨this.2.1, this.2.2⟩)
  simpa using this
theorem RW.nil : RW [] := ⟨by simp, by simp⟩
theorem chAt_some {k : Int} {l : List Ch} {i : Nat} (h : chAt k l = some i) : ∃ x, l[i]? = some x ∧ x.key = k := by
  unfold chAt at h
  rw [List.findIdx?_eq_some_iff_getElem] at h
  obtain ⟨hi, h1, _⟩ := h
  exact ⟨l[i], List.getElem?_eq_getElem hi, by simpa using h1⟩
theorem chAt_none {k : Int} {l : List Ch} (h : chAt k l = none) : ∀ c ∈ l, c.key ≠ k := by
  unfold chAt at h
  rw [List.findIdx?_eq_none_iff] at h
  intro c hc
  simpa using h c hc
theorem RW.put {l : List Ch} (h : RW l) {c : Ch} (hc : chOk c = true) : RW (putCh c l) := by
  unfold putCh
  cases hq : chAt c.key l with
  | none =>
    refine ⟨fun x hx => ?_, ?_⟩
    · rcases List.mem_append.1 hx with hx | hx
      · exact h.1 x hx
      · obtain rfl := List.mem_singleton.1 hx; exact hc
    · rw [List.map_append, List.nodup_append]
      refine ⟨h.2, by simp, fun x hx y hy e => ?_⟩
      obtain ⟨d, hd, rfl⟩ := List.mem_map.1 hx
      simp at hy
      exact chAt_none hq d hd (e.trans hy)
  | some i =>
    obtain ⟨x, hx, hk⟩ := chAt_some hq
    refine ⟨fun y hy => ?_, ?_⟩
    · rcases List.mem_or_eq_of_mem_set hy with hy | rfl
      · exact h.1 y hy
      · exact hc
    · have : (l.set i c).map (·.key) = l.map (·.key) := by
        rw [List.map_set]
        apply List.ext_getElem?
        intro j
        rw [List.getElem?_set]
        split
        · rename_i e
          subst e
          rw [List.getElem?_map, hx]
          have hil := (List.getElem?_eq_some_iff.1 hx).1
          simp [hil, hk]
        · rfl
      rw [this]
      exact h.2

/-- What every store is like. -/
structure KS.Ok (s : KS) : Prop where
  lv : s.vs.length = 16
  lt : s.th.length = 16
  z : ∀ k, s.th.getD k false = false → s.vs.getD k 0 = 0
  keys : s.ws.Pairwise (fun x y => x.1 ≠ y.1)
  chs : ∀ x ∈ s.ws, RW x.2.l
  rk : Right s.lk
theorem KS.Ok.new : KS.new.Ok := ⟨rfl, rfl, fun k _ => by
  show (List.replicate 16 (0 : Int)).getD k 0 = 0
  rw [List.getD_eq_getElem?_getD, List.getElem?_replicate]
  split <;> rfl, List.Pairwise.nil, fun x hx => absurd hx List.not_mem_nil, Right.nil⟩
theorem takeA_keep {A : LTab} {o k : Int} {al : Bool} (h : (takeA A o k al).1 ≠ 0) : (takeA A o k al).2 = A := by
  unfold takeA at h ⊢
  split
  · rfl
  · rename_i h1
    rw [if_neg h1] at h
    split
    · rfl
    · rename_i h2
      rw [if_neg h2] at h
      exact absurd rfl h
theorem pw_snoc {α β : Type} {ws : List (α × β)} {n : α} {v : β} (h : ws.Pairwise (fun x y => x.1 ≠ y.1)) (hn : ∀ x ∈ ws, x.1 ≠ n) : (ws ++ [(n, v)]).Pairwise (fun x y => x.1 ≠ y.1) := by
  rw [List.pairwise_append]
  refine ⟨h, by simp, fun x hx y hy => ?_⟩
  obtain rfl := List.mem_singleton.1 hy
  exact hn x hx
theorem KS.Ok.touch {s : KS} (h : s.Ok) (n key : Int) (al : Bool) : (s.touch n key al).2.Ok := by
  unfold KS.touch
  split
  · exact h
  · split
    · exact h
    · split
      · exact h
      · refine ⟨h.lv, h.lt, h.z, ?_, ?_, h.rk.take _ _ _⟩
        · show (if (aget n s.ws).isSome = true then s.ws else s.ws ++ [(n, ⟨[], false⟩)]).Pairwise _
          split
          · exact h.keys
          · rename_i hn
            have hn' : aget n s.ws = none := by simpa using hn
            exact pw_snoc h.keys (aget_none.1 hn')
        · show ∀ x ∈ (if (aget n s.ws).isSome = true then s.ws else s.ws ++ [(n, ⟨[], false⟩)]), _
          split
          · exact h.chs
          · intro x hx
            rcases List.mem_append.1 hx with hx | hx
            · exact h.chs x hx
            · obtain rfl := List.mem_singleton.1 hx; exact RW.nil
theorem touch_zero {s : KS} {n key : Int} {al : Bool} (h : (s.touch n key al).1 = 0) :
    1 ≤ n ∧ 0 ≤ key ∧ key < 16 ∧ ((aget n s.ws).map (·.p)).getD false = false ∧ (takeA s.lk n key al).1 = 0 ∧
      (s.touch n key al).2 = ⟨s.vs, s.th, if (aget n s.ws).isSome then s.ws else s.ws ++ [(n, ⟨[], false⟩)], (takeA s.lk n key al).2⟩ := by
  unfold KS.touch at h ⊢
  split at h
  · cases h
  · rename_i h1
    rw [if_neg h1]
    split at h
    · cases h
    · rename_i h2
      rw [if_neg h2]
      split at h
      · rename_i h3; exact absurd h h3
      · rename_i h3
        rw [if_neg h3]
        have h3' : (takeA s.lk n key al).1 = 0 := by simpa using h3
        exact ⟨by omega, by omega, by omega, by simpa using h2, h3', rfl⟩
theorem aget_snoc_self {ws : List (Int × KW)} {n : Int} {v : KW} (h : aget n ws = none) : aget n (ws ++ [(n, v)]) = some v := by
  unfold aget at h ⊢
  rw [List.find?_append]
  simp only [Option.map_eq_none_iff] at h
  rw [h]
  simp
theorem touch_list {s : KS} {n key : Int} {al : Bool} (h : (s.touch n key al).1 = 0) : aget n (s.touch n key al).2.ws = some ⟨s.listOf n, false⟩ := by
  obtain ⟨_, _, _, h4, _, h6⟩ := touch_zero h
  rw [h6]
  show aget n (if (aget n s.ws).isSome = true then s.ws else s.ws ++ [(n, ⟨[], false⟩)]) = _
  cases hg : aget n s.ws with
  | none =>
    simp only [Option.isSome_none, Bool.false_eq_true, if_false]
    rw [aget_snoc_self hg]
    simp [KS.listOf, hg]
  | some v =>
    simp only [Option.isSome_some, if_true]
    rw [hg] at h4 ⊢
    simp at h4
    simp [KS.listOf, hg, ← h4]
theorem KS.Ok.listOf {s : KS} (h : s.Ok) (n : Int) : RW (s.listOf n) := by
  unfold KS.listOf
  cases hg : aget n s.ws with
  | none => exact RW.nil
  | some v => exact h.chs _ (aget_mem hg)
theorem KS.Ok.aputs {s : KS} (h : s.Ok) (n : Int) (v : KW) (hv : RW v.l) : ({ s with ws := aput n v s.ws } : KS).Ok :=
  ⟨h.lv, h.lt, h.z, aput_keys h.keys, fun x hx => by
    rcases mem_aput hx with rfl | ⟨hx, _⟩
    · exact hv
    · exact h.chs x hx, h.rk⟩
theorem KS.Ok.change {s : KS} (h : s.Ok) (n : Int) (c : Ch) (hc : c.kind = 1 ∨ (c.kind = 2 ∧ c.val = 0)) : (s.change n c).2.Ok := by
  unfold KS.change
  simp only
  split
  · exact h.touch _ _ _
  · rename_i h0
    have h0' : (s.touch n c.key true).1 = 0 := by simpa using h0
    have hz := touch_zero h0'
    have ht := h.touch n c.key true
    exact ht.aputs n _ ((ht.listOf n).put ((chOk_iff c).2 ⟨hc, hz.2.1, hz.2.2.1⟩))
theorem KS.Ok.gone {s : KS} (h : s.Ok) (n : Int) : (s.gone n).Ok :=
  ⟨h.lv, h.lt, h.z, h.keys.filter _, fun x hx => h.chs x (List.mem_filter.1 hx).1, h.rk.drop n⟩
theorem KS.Ok.get {s : KS} (h : s.Ok) (n key : Int) : (s.get n key).2.Ok := by
  unfold KS.get
  simp only
  split <;> exact h.touch _ _ _
theorem KS.Ok.prepare {s : KS} (h : s.Ok) (n : Int) : (s.prepare n).2.Ok := by
  unfold KS.prepare
  split
  · exact h
  · cases hg : aget n s.ws with
    | none => exact h.gone n
    | some v =>
      simp only
      split
      · exact h
      · split
        · exact h.gone n
        · exact h.aputs n _ (h.chs _ (aget_mem hg))
theorem KS.Ok.setV {s : KS} (h : s.Ok) {c : Ch} (hc : chOk c = true) : (setV s c).Ok := by
  have hk := (chOk_iff c).1 hc
  refine ⟨by simp [Mine.setV, h.lv], by simp [Mine.setV, h.lt], fun k hk' => ?_, h.keys, h.chs, h.rk⟩
  simp only [Mine.setV, List.getD_eq_getElem?_getD, List.getElem?_set] at hk' ⊢
  by_cases e : c.key.toNat = k
  · subst e
    have h1 : c.key.toNat < s.th.length := by rw [h.lt]; omega
    have h2 : c.key.toNat < s.vs.length := by rw [h.lv]; omega
    simp only [h1, h2, if_true, Option.getD_some, beq_eq_false_iff_ne] at hk' ⊢
    rcases hk.1 with q | q
    · exact absurd q hk'
    · exact q.2
  · simp only [e, if_false] at hk' ⊢
    have := h.z k (by simpa [List.getD_eq_getElem?_getD] using hk')
    simpa [List.getD_eq_getElem?_getD] using this
theorem KS.Ok.setVs : ∀ (l : List Ch) {s : KS}, s.Ok → (∀ c ∈ l, chOk c = true) → (l.foldl Mine.setV s).Ok
  | [], _, h, _ => h
  | c :: cs, _, h, hc => KS.Ok.setVs cs (h.setV (hc c (by simp))) (fun x hx => hc x (by simp [hx]))
theorem KS.Ok.commit {s : KS} (h : s.Ok) (n : Int) : (s.commit n).2.Ok := by
  unfold KS.commit
  split
  · exact h
  · exact (KS.Ok.setVs _ h (h.listOf n).1).gone n
theorem KS.Ok.backout {s : KS} (h : s.Ok) (n : Int) : (s.backout n).2.Ok := by
  unfold KS.backout
  split
  · exact h
  · exact h.gone n
theorem Right.takeAll (n : Int) : ∀ (l : List Ch) {A : LTab}, Right A → Right (takeAll n l A).2
  | [], _, h => h
  | c :: cs, A, h => by
    unfold Mine.takeAll
    split
    · exact h
    · exact Right.takeAll n cs (h.take _ _ _)
theorem KS.Ok.restore {s : KS} (h : s.Ok) (n : Int) (l : List Ch) : (s.restore n l).2.Ok := by
  unfold KS.restore
  split
  · exact h
  · split
    · exact h
    · rename_i hr
      have hr' : RW l := (rw_iff l).1 (by simpa using hr)
      split
      · exact h
      · rename_i hs
        have hs' : aget n s.ws = none := by simpa using hs
        split
        · exact ⟨h.lv, h.lt, h.z, h.keys, h.chs, (Right.takeAll n l h.rk).drop n⟩
        · refine ⟨h.lv, h.lt, h.z, ?_, ?_, Right.takeAll n l h.rk⟩
          · show (if l = [] then s.ws else s.ws ++ [(n, ⟨l, true⟩)]).Pairwise _
            split
            · exact h.keys
            · exact pw_snoc h.keys (aget_none.1 hs')
          · show ∀ x ∈ (if l = [] then s.ws else s.ws ++ [(n, ⟨l, true⟩)]), _
            split
            · exact h.chs
            · intro x hx
              rcases List.mem_append.1 hx with hx | hx
              · exact h.chs x hx
              · obtain rfl := List.mem_singleton.1 hx; exact hr'
end Go.Mine
