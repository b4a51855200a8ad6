/- The plain resources: a store and a queue side by side; what their calls answer, and which works are prepared. No walk. -/
import Derived.Test.YtdejbinmnoabeaaQuU
import Derived.Test.YtdejbinmnoabeaaMapLib
namespace Go.Mine
set_option linter.unusedVariables false
set_option linter.unusedSimpArgs false
structure RM where
  k : KS
  q : QS
def RM.new : RM := ⟨KS.new, QS.new⟩
structure RM.Ok (s : RM) : Prop where
  k : s.k.Ok
  q : s.q.Ok
theorem RM.Ok.new : RM.new.Ok := ⟨KS.Ok.new, QS.Ok.new⟩
def RM.fit (s : RM) (n : Int) : Int := if n < 1 then 1 else if (prepd n s.k.ws || prepd n s.q.ws) = true then 7 else 0
def RM.get (s : RM) (n key : Int) : (Int × Bool × Int) × RM := if s.fit n ≠ 0 then ((0, false, s.fit n), s) else ((s.k.get n key).1, ⟨(s.k.get n key).2, s.q⟩)
def RM.change (s : RM) (n : Int) (c : Ch) : Int × RM := if s.fit n ≠ 0 then (s.fit n, s) else ((s.k.change n c).1, ⟨(s.k.change n c).2, s.q⟩)
def RM.push (s : RM) (n v : Int) : Int × RM := if s.fit n ≠ 0 then (s.fit n, s) else ((s.q.put n v).1, ⟨s.k, (s.q.put n v).2⟩)
def RM.pop (s : RM) (n : Int) : (Int × Int) × RM := if s.fit n ≠ 0 then ((0, s.fit n), s) else ((s.q.take n).1, ⟨s.k, (s.q.take n).2⟩)
def RM.prepare (s : RM) (n : Int) : (List Ch × Int) × RM :=
  if s.fit n ≠ 0 then (([], s.fit n), s) else (((s.k.prepare n).1.1 ++ (s.q.prepare n).1.1, 0), ⟨(s.k.prepare n).2, (s.q.prepare n).2⟩)
def RM.commit (s : RM) (n : Int) : Int × RM := if s.fit n = 1 then (1, s) else (0, ⟨(s.k.commit n).2, (s.q.commit n).2⟩)
def RM.backout (s : RM) (n : Int) : Int × RM := if s.fit n = 1 then (1, s) else (0, ⟨(s.k.backout n).2, (s.q.backout n).2⟩)
def kvKind (c : Ch) : Bool := c.kind == 1 || c.kind == 2
/-- How many changes at the front are the store's. -/
def cutN : List Ch → Nat
  | [] => 0
  | c :: cs => if kvKind c = true then cutN cs + 1 else 0
theorem cutN_le (l : List Ch) : cutN l ≤ l.length := by
  induction l with
  | nil => exact Nat.le_refl _
  | cons c cs ih =>
    rw [cutN]
    split
    · exact Nat.succ_le_succ ih
    · exact Nat.zero_le _
theorem cutN_lt : ∀ {l : List Ch} {i : Nat} {y : Ch}, i < cutN l → l[i]? = some y → kvKind y = true
  | c :: cs, 0, y, h, hy => by
    rw [cutN] at h
    split at h
    · simp at hy; subst hy; assumption
    · omega
  | c :: cs, i + 1, y, h, hy => by
    rw [cutN] at h
    split at h
    · exact cutN_lt (l := cs) (i := i) (by omega) (by simpa using hy)
    · omega
theorem cutN_ge : ∀ {l : List Ch} {i : Nat}, (∀ j y, j < i → l[j]? = some y → kvKind y = true) → i ≤ l.length → i ≤ cutN l
  | l, 0, _, _ => Nat.zero_le _
  | [], i + 1, _, h => by simp at h
  | c :: cs, i + 1, h, hl => by
    rw [cutN, if_pos (h 0 c (by omega) rfl)]
    have := cutN_ge (l := cs) (i := i) (fun j y hj hy => h (j + 1) y (by omega) (by simpa using hy)) (by simpa using hl)
    omega
theorem cutN_eq {l : List Ch} {i : Nat} (h : ∀ j y, j < i → l[j]? = some y → kvKind y = true) (hl : i ≤ l.length) (hn : ∀ y, l[i]? = some y → kvKind y = false) : i = cutN l := by
  have h1 := cutN_ge h hl
  have h2 := cutN_le l
  apply Classical.byContradiction
  intro hne
  have hlt : i < cutN l := by omega
  have hil : i < l.length := by omega
  have := cutN_lt hlt (List.getElem?_eq_getElem hil)
  rw [hn _ (List.getElem?_eq_getElem hil)] at this
  cases this
def RM.restore (s : RM) (n : Int) (l : List Ch) : Int × RM :=
  if n < 1 then (1, s)
  else if (l.drop (cutN l)).any kvKind = true then (3, s)
  else if (s.k.restore n (l.take (cutN l))).1 ≠ 0 then ((s.k.restore n (l.take (cutN l))).1, ⟨(s.k.restore n (l.take (cutN l))).2, s.q⟩)
  else if (s.q.restore n (l.drop (cutN l))).1 ≠ 0 then
    ((s.q.restore n (l.drop (cutN l))).1, ⟨if 0 < cutN l then ((s.k.restore n (l.take (cutN l))).2.backout n).2 else (s.k.restore n (l.take (cutN l))).2, (s.q.restore n (l.drop (cutN l))).2⟩)
  else (0, ⟨(s.k.restore n (l.take (cutN l))).2, (s.q.restore n (l.drop (cutN l))).2⟩)
def RM.busy (s : RM) (n : Int) : Bool := s.k.busy n || s.q.busy n
theorem RM.fit_cases (s : RM) (n : Int) : (n < 1 ∧ s.fit n = 1) ∨ (1 ≤ n ∧ s.fit n = 7 ∧ (prepd n s.k.ws || prepd n s.q.ws) = true) ∨ (1 ≤ n ∧ s.fit n = 0 ∧ prepd n s.k.ws = false ∧ prepd n s.q.ws = false) := by
  unfold RM.fit
  by_cases h1 : n < 1
  · exact .inl ⟨h1, by rw [if_pos h1]⟩
  · rw [if_neg h1]
    cases h2 : (prepd n s.k.ws || prepd n s.q.ws)
    · rw [if_neg (by simp)]
      rw [Bool.or_eq_false_iff] at h2
      exact .inr (.inr ⟨by omega, rfl, h2.1, h2.2⟩)
    · rw [if_pos rfl]
      exact .inr (.inl ⟨by omega, rfl, rfl⟩)
/-! ### Which works are prepared. -/
theorem prepd_snoc {m n : Int} {v : KW} {ws : List (Int × KW)} (h : aget n ws = none) : prepd m (ws ++ [(n, v)]) = (prepd m ws || (m == n && v.p)) := by
  unfold prepd
  by_cases hm : m = n
  · subst hm
    rw [aget_snoc_self h, h]
    simp
  · have : aget m (ws ++ [(n, v)]) = aget m ws := by
      unfold aget
      rw [List.find?_append]
      have : ([(n, v)] : List (Int × KW)).find? (fun e => decide (e.1 = m)) = none := by simp [Ne.symm hm]
      rw [this, Option.or_none]
    rw [this]
    simp [hm]
theorem prepd_aput {m n : Int} {v : KW} {ws : List (Int × KW)} (hk : ws.Pairwise (fun x y => x.1 ≠ y.1)) : prepd m (aput n v ws) = if m = n then v.p else prepd m ws := by
  unfold prepd
  by_cases hm : m = n
  · subst hm
    rw [aget_put_self m v hk, if_pos rfl]
    rfl
  · rw [aget_put_other v hk hm, if_neg hm]
theorem prepd_adel {m n : Int} {ws : List (Int × KW)} : prepd m (adel n ws) = (prepd m ws && !(m == n)) := by
  unfold prepd
  by_cases hm : m = n
  · subst hm
    have : aget m (adel m ws) = none := by
      rw [aget_none]
      intro e he
      have := List.mem_filter.1 he
      simpa using this.2
    rw [this]
    simp
  · have : aget m (adel n ws) = aget m ws := by
      unfold aget adel
      rw [List.find?_filter]
      congr 2
      funext e
      by_cases h : e.1 = m
      · have : ¬ m = n := hm
        simp [h, this]
      · simp [h]
    rw [this]
    simp [hm]
theorem prepd_touch {s : KS} {n key m : Int} {al : Bool} : prepd m (s.touch n key al).2.ws = prepd m s.ws := by
  unfold KS.touch
  split
  · rfl
  · split
    · rfl
    · split
      · rfl
      · show prepd m (if (aget n s.ws).isSome = true then s.ws else s.ws ++ [(n, ⟨[], false⟩)]) = _
        split
        · rfl
        · rename_i h
          rw [prepd_snoc (by simpa using h)]
          simp
theorem prepd_get {s : KS} {n key m : Int} : prepd m (s.get n key).2.ws = prepd m s.ws := by
  unfold KS.get
  simp only
  split <;> exact prepd_touch
theorem prepd_change {s : KS} (hs : s.Ok) {n m : Int} {c : Ch} : prepd m (s.change n c).2.ws = prepd m s.ws := by
  unfold KS.change
  simp only
  split
  · exact prepd_touch
  · rename_i h
    have h0 : (s.touch n c.key true).1 = 0 := by simpa using h
    show prepd m (aput n _ (s.touch n c.key true).2.ws) = _
    rw [prepd_aput (hs.touch n c.key true).keys]
    split
    · rename_i hm
      subst hm
      have h1 := prepd_touch (s := s) (n := m) (key := c.key) (al := true) (m := m)
      rw [← h1]
      unfold prepd
      rw [touch_list h0]
      rfl
    · exact prepd_touch
theorem prepd_noteW {n m : Int} {c : Ch} {ws : List (Int × KW)} (hk : ws.Pairwise (fun x y => x.1 ≠ y.1)) : prepd m (noteW n c ws) = prepd m ws := by
  unfold noteW
  cases h : aget n ws with
  | none => rw [prepd_snoc h]; simp
  | some v =>
    rw [prepd_aput hk]
    split
    · rename_i hm; subst hm; unfold prepd; rw [h]; rfl
    · rfl
theorem prepd_put {s : QS} (hs : s.Ok) {n v m : Int} : prepd m (s.put n v).2.ws = prepd m s.ws := by
  unfold QS.put
  split
  · rfl
  · split
    · rfl
    · exact prepd_noteW hs.keys
theorem prepd_take {s : QS} (hs : s.Ok) {n m : Int} : prepd m (s.take n).2.ws = prepd m s.ws := by
  unfold QS.take
  split
  · rfl
  · split
    · rfl
    · split
      · rfl
      · exact prepd_noteW hs.keys
theorem prepd_gone {s : KS} {n m : Int} : prepd m (s.gone n).ws = (prepd m s.ws && !(m == n)) := prepd_adel
/-- A prepared list of the store's. -/
theorem prepd_kprep {s : KS} (hs : s.Ok) {n m : Int} (h1 : 1 ≤ n) (hp : prepd n s.ws = false) : prepd m (s.prepare n).2.ws = (prepd m s.ws || (m == n && !(s.prepare n).1.1.isEmpty)) := by
  have hg : prepd m (s.gone n).ws = prepd m s.ws := by
    rw [prepd_gone]
    by_cases hm : m = n
    · subst hm; simp [hp]
    · simp [hm]
  unfold KS.prepare
  rw [if_neg (by omega)]
  cases h : aget n s.ws with
  | none => simp only [List.isEmpty_nil, Bool.not_true, Bool.and_false, Bool.or_false]; exact hg
  | some w =>
    have hwp : w.p = false := by unfold prepd at hp; rw [h] at hp; exact hp
    simp only [hwp, Bool.false_eq_true, if_false]
    by_cases hl : w.l = []
    · rw [if_pos hl]
      simp only [List.isEmpty_nil, Bool.not_true, Bool.and_false, Bool.or_false]; exact hg
    · rw [if_neg hl]
      show prepd m (aput n ⟨w.l, true⟩ s.ws) = _
      rw [prepd_aput hs.keys]
      have : w.l.isEmpty = false := by simpa using hl
      simp only [this, Bool.not_false, Bool.and_true]
      by_cases hm : m = n
      · subst hm; simp
      · simp [hm]
theorem prepd_qprep {s : QS} (hs : s.Ok) {n m : Int} (h1 : 1 ≤ n) (hp : prepd n s.ws = false) : prepd m (s.prepare n).2.ws = (prepd m s.ws || (m == n && !(s.prepare n).1.1.isEmpty)) := by
  have hf : s.fit n = 0 := by unfold QS.fit; rw [if_neg (by omega), if_neg (by rw [hp]; simp)]
  unfold QS.prepare
  rw [if_neg (by simp [hf])]
  cases h : aget n s.ws with
  | none => simp
  | some v =>
    show prepd m (aput n ⟨v.l, true⟩ s.ws) = _
    rw [prepd_aput hs.keys]
    have hne : v.l.isEmpty = false := by simpa using hs.ne _ (aget_mem h)
    simp only [hne, Bool.not_false, Bool.and_true]
    by_cases hm : m = n
    · subst hm; simp
    · simp [hm]
theorem prepd_krest {s : KS} {n m : Int} {l : List Ch} (h : (s.restore n l).1 = 0) : prepd m (s.restore n l).2.ws = (prepd m s.ws || (m == n && !l.isEmpty)) := by
  unfold KS.restore at h ⊢
  split at h
  · cases h
  · split at h
    · cases h
    · split at h
      · cases h
      · rename_i h1 h2 h3
        split at h
        · rename_i h4; exact absurd h h4
        · rename_i h4
          rw [if_neg h1, if_neg h2, if_neg h3, if_neg h4]
          show prepd m (if l = [] then s.ws else s.ws ++ [(n, ⟨l, true⟩)]) = _
          split
          · rename_i hl; subst hl; simp
          · rename_i hl
            rw [prepd_snoc (by simpa using h3)]
            have : l.isEmpty = false := by simpa using hl
            simp [this]
theorem krest_err {s : KS} {n : Int} {l : List Ch} (h : (s.restore n l).1 ≠ 0) : (s.restore n l).2.ws = s.ws := by
  unfold KS.restore at h ⊢
  split
  · rfl
  · split
    · rfl
    · split
      · rfl
      · split
        · rfl
        · rename_i h1 h2 h3 h4
          rw [if_neg h1, if_neg h2, if_neg h3, if_neg h4] at h
          exact absurd rfl h
theorem krest_free {s : KS} {n : Int} {l : List Ch} (h : (s.restore n l).1 = 0) : aget n s.ws = none := by
  unfold KS.restore at h
  split at h
  · cases h
  · split at h
    · cases h
    · split at h
      · cases h
      · rename_i h3
        simpa using h3
theorem prepd_none {n : Int} {ws : List (Int × KW)} (h : aget n ws = none) : prepd n ws = false := by unfold prepd; rw [h]; rfl
theorem prepd_qrest {s : QS} {n m : Int} {l : List Ch} (h : (s.restore n l).1 = 0) : prepd m (s.restore n l).2.ws = (prepd m s.ws || (m == n && !l.isEmpty)) := by
  unfold QS.restore at h ⊢
  split at h
  · cases h
  · split at h
    · cases h
    · split at h
      · cases h
      · rename_i h1 h2 h3
        rw [if_neg h1, if_neg h2, if_neg h3]
        show prepd m (addW n true l s.ws) = _
        unfold addW
        split
        · rename_i hl; subst hl; simp
        · rename_i hl
          rw [prepd_snoc (by unfold QS.busy at h3; simpa using h3)]
          have : l.isEmpty = false := by simpa using hl
          simp [this]
theorem qrest_err {s : QS} {n : Int} {l : List Ch} (h : (s.restore n l).1 ≠ 0) : (s.restore n l).2 = s := by
  unfold QS.restore at h ⊢
  split
  · rfl
  · split
    · rfl
    · split
      · rfl
      · rename_i h1 h2 h3
        rw [if_neg h1, if_neg h2, if_neg h3] at h
        exact absurd rfl h
theorem kback_ws {s : KS} {n : Int} (h : 1 ≤ n) : (s.backout n).2 = s.gone n := by unfold KS.backout; rw [if_neg (by omega)]
theorem kcommit_ws {s : KS} {n : Int} (h : 1 ≤ n) : (s.commit n).2.ws = adel n s.ws := by
  unfold KS.commit
  rw [if_neg (by omega)]
  show adel n _ = _
  have : ∀ (l : List Ch) (t : KS), (l.foldl setV t).ws = t.ws := by
    intro l
    induction l with
    | nil => intro t; rfl
    | cons c cs ih => intro t; exact ih (setV t c)
  rw [this]
theorem qback_ws {s : QS} {n : Int} (h : 1 ≤ n) : (s.backout n).2.ws = adel n s.ws := by unfold QS.backout; rw [if_neg (by omega)]
theorem qcommit_ws {s : QS} {n : Int} (h : 1 ≤ n) : (s.commit n).2.ws = adel n s.ws := by unfold QS.commit; rw [if_neg (by omega)]
/-! ### The invariant. -/
theorem RM.Ok.get {s : RM} (h : s.Ok) (n key : Int) : (s.get n key).2.Ok := by
  unfold RM.get
  split
  · exact h
  · exact ⟨h.k.get n key, h.q⟩
theorem RM.Ok.change {s : RM} (h : s.Ok) (n : Int) (c : Ch) (hc : c.kind = 1 ∨ (c.kind = 2 ∧ c.val = 0)) : (s.change n c).2.Ok := by
  unfold RM.change
  split
  · exact h
  · exact ⟨h.k.change n c hc, h.q⟩
theorem RM.Ok.push {s : RM} (h : s.Ok) (n v : Int) : (s.push n v).2.Ok := by
  unfold RM.push
  split
  · exact h
  · exact ⟨h.k, h.q.put n v⟩
theorem RM.Ok.pop {s : RM} (h : s.Ok) (n : Int) : (s.pop n).2.Ok := by
  unfold RM.pop
  split
  · exact h
  · exact ⟨h.k, h.q.take n⟩
theorem RM.Ok.prepare {s : RM} (h : s.Ok) (n : Int) : (s.prepare n).2.Ok := by
  unfold RM.prepare
  split
  · exact h
  · exact ⟨h.k.prepare n, h.q.prepare n⟩
theorem RM.Ok.commit {s : RM} (h : s.Ok) (n : Int) : (s.commit n).2.Ok := by
  unfold RM.commit
  split
  · exact h
  · exact ⟨h.k.commit n, h.q.commit n⟩
theorem RM.Ok.backout {s : RM} (h : s.Ok) (n : Int) : (s.backout n).2.Ok := by
  unfold RM.backout
  split
  · exact h
  · exact ⟨h.k.backout n, h.q.backout n⟩
theorem RM.Ok.restore {s : RM} (h : s.Ok) (n : Int) (l : List Ch) : (s.restore n l).2.Ok := by
  unfold RM.restore
  split
  · exact h
  · split
    · exact h
    · split
      · exact ⟨h.k.restore n _, h.q⟩
      · split
        · refine ⟨?_, h.q.restore n _⟩
          show KS.Ok (if 0 < cutN l then _ else _)
          split
          · exact (h.k.restore n _).backout n
          · exact h.k.restore n _
        · exact ⟨h.k.restore n _, h.q.restore n _⟩
end Go.Mine
