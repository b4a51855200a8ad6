/- The plain store of keys and the document's pairs agree, and stay so. -/
import Derived.Test.YtekebjcknhjceaaKvDb
namespace Go.Mine
set_option linter.unusedVariables false
set_option linter.unusedSimpArgs false
/-- The document's pairs are the store's values. -/
structure Agree (L : List (Int × Int)) (s : KS) : Prop where
  nd : (L.map (·.1)).Nodup
  ks : ∀ e ∈ L, 0 ≤ e.1 ∧ e.1 < 16
  eq : ∀ k : Nat, k < 16 → dval L k = (s.vs.getD k 0, s.th.getD k false)
theorem Agree.len {L : List (Int × Int)} {s : KS} (h : Agree L s) : L.length ≤ 16 := by
  have := nodup_lt 16 _ h.nd (fun x hx => by
    obtain ⟨e, he, rfl⟩ := List.mem_map.1 hx
    exact h.ks e he)
  simpa using this
theorem Agree.same {L : List (Int × Int)} {s t : KS} (h : Agree L s) (h1 : t.vs = s.vs) (h2 : t.th = s.th) : Agree L t :=
  ⟨h.nd, h.ks, fun k hk => by rw [h1, h2]; exact h.eq k hk⟩
theorem Agree.new : Agree [] KS.new := ⟨List.nodup_nil, fun e he => absurd he List.not_mem_nil, fun k hk => by
  show (0, false) = ((List.replicate 16 (0 : Int)).getD k 0, (List.replicate 16 false).getD k false)
  simp only [List.getD_eq_getElem?_getD, List.getElem?_replicate, if_pos hk]
  rfl⟩
theorem find_drop (L : List (Int × Int)) (c k : Int) : (L.filter (fun e => e.1 != c)).find? (fun e => e.1 == k) = if c = k then none else L.find? (fun e => e.1 == k) := by
  split
  · rename_i h
    subst h
    rw [List.find?_eq_none]
    intro e he
    have := (List.mem_filter.1 he).2
    simpa using this
  · rename_i h
    induction L with
    | nil => rfl
    | cons e L ih =>
      rw [List.filter_cons]
      by_cases hc : e.1 = c
      · have h1 : (e.1 != c) = false := by simp [hc]
        have h2 : (e.1 == k) = false := by simp [hc, h]
        rw [h1, if_neg (by decide), ih, List.find?_cons, h2]
      · have h1 : (e.1 != c) = true := by simp [hc]
        rw [h1, if_pos rfl, List.find?_cons, List.find?_cons, ih]
theorem dval_set (L : List (Int × Int)) (c : Ch) (hc : chOk c = true) (k : Int) : dval (setD L c) k = if c.key = k then (c.val, c.kind == 1) else dval L k := by
  have hck := (chOk_iff c).1 hc
  unfold setD dval
  rcases hck.1 with q | ⟨q, q2⟩
  · rw [q]
    simp only [beq_self_eq_true, if_true]
    rw [List.find?_append, find_drop]
    by_cases e : c.key = k
    · rw [if_pos e, if_pos e]
      simp [e]
    · rw [if_neg e, if_neg e]
      have : List.find? (fun e => e.1 == k) [(c.key, c.val)] = none := by simp [e]
      rw [this]
      cases L.find? (fun e => e.1 == k) <;> rfl
  · rw [q]
    have : ((2 : Int) == 1) = false := by decide
    simp only [this, Bool.false_eq_true, if_false]
    rw [find_drop]
    by_cases e : c.key = k
    · rw [if_pos e, if_pos e, q2]
    · rw [if_neg e, if_neg e]
theorem Agree.set {L : List (Int × Int)} {s : KS} (h : Agree L s) (h1 : s.vs.length = 16) (h2 : s.th.length = 16) {c : Ch} (hc : chOk c = true) : Agree (setD L c) (setV s c) := by
  have hck := (chOk_iff c).1 hc
  have hf : ((L.filter (fun e => e.1 != c.key)).map (·.1)).Nodup := h.nd.sublist (List.filter_sublist.map _)
  have hno : c.key ∉ (L.filter (fun e => e.1 != c.key)).map (·.1) := by
    intro q
    obtain ⟨e, he, hk⟩ := List.mem_map.1 q
    have := (List.mem_filter.1 he).2
    rw [hk] at this
    simp at this
  refine ⟨?_, ?_, fun k hk => ?_⟩
  · unfold setD
    split
    · rw [List.map_append, List.nodup_append]
      refine ⟨hf, by simp, ?_⟩
      intro a ha b hb
      simp at hb
      rw [hb]
      rintro rfl
      exact hno ha
    · exact hf
  · intro e he
    unfold setD at he
    split at he
    · rcases List.mem_append.1 he with q | q
      · exact h.ks e (List.mem_filter.1 q).1
      · obtain rfl := List.mem_singleton.1 q
        exact hck.2
    · exact h.ks e (List.mem_filter.1 he).1
  · rw [dval_set L c hc, setV_get h1 h2 hc k hk, h.eq k hk]
theorem Agree.sets : ∀ (l : List Ch) {L : List (Int × Int)} {s : KS}, Agree L s → s.vs.length = 16 → s.th.length = 16 → (∀ c ∈ l, chOk c = true) → Agree (l.foldl setD L) (l.foldl setV s)
  | [], _, _, h, _, _, _ => h
  | c :: cs, L, s, h, h1, h2, hc => Agree.sets cs (h.set h1 h2 (hc c (by simp))) ((setV_len s c).1.trans h1) ((setV_len s c).2.trans h2) (fun d hd => hc d (by simp [hd]))
theorem Agree.commit {L : List (Int × Int)} {s : KS} (h : Agree L s) (hs : s.Ok) (n : Int) : Agree (commitD L s n) (s.commit n).2 := by
  unfold commitD KS.commit
  split
  · exact h
  · exact (Agree.sets _ h hs.lv hs.lt (hs.listOf n).1).same rfl rfl
theorem Agree.value {L : List (Int × Int)} {s : KS} (h : Agree L s) (k : Int) : s.value k = dval L k := by
  unfold KS.value
  split
  · rename_i hk
    have : L.find? (fun e => e.1 == k) = none := by
      rw [List.find?_eq_none]
      intro e he q
      have := h.ks e he
      have : e.1 = k := by simpa using q
      omega
    unfold dval
    rw [this]
  · rename_i hk
    obtain ⟨m, hm⟩ := Int.eq_ofNat_of_zero_le (show 0 ≤ k by omega)
    subst hm
    exact (h.eq m (by omega)).symm
theorem touch_vt (s : KS) (n k : Int) (al : Bool) : (s.touch n k al).2.vs = s.vs ∧ (s.touch n k al).2.th = s.th := by
  unfold KS.touch
  split
  · exact ⟨rfl, rfl⟩
  · split
    · exact ⟨rfl, rfl⟩
    · split <;> exact ⟨rfl, rfl⟩
theorem Agree.get {L : List (Int × Int)} {s : KS} (h : Agree L s) (n k : Int) : dget L s n k = (s.get n k).1 := by
  unfold dget KS.get
  simp only
  by_cases hz : (s.touch n k false).1 = 0
  · rw [if_neg (by simp [hz]), if_neg (by simp [hz])]
    have ht := touch_zero hz
    have hv := touch_vt s n k false
    have hd := (h.same hv.1 hv.2).value k
    rw [KS.value, if_neg (by omega)] at hd
    unfold seenV
    cases ((s.touch n k false).2.listOf n).find? (fun c => c.key == k) with
    | some c => rfl
    | none => simp only; rw [← hd]
  · rw [if_pos hz, if_pos hz]
theorem get_st (s : KS) (n k : Int) : (s.get n k).2 = (s.touch n k false).2 := by
  unfold KS.get
  simp only
  split <;> rfl
/-- The document's pairs behind a call. -/
def callL (L : List (Int × Int)) (s : KS) (o : KOp) : List (Int × Int) := if o.kind = 4 then commitD L s o.work else L
theorem change_vt (s : KS) (n : Int) (c : Ch) : (s.change n c).2.vs = s.vs ∧ (s.change n c).2.th = s.th := by
  unfold KS.change
  simp only
  split <;> exact touch_vt s n c.key true
theorem prepare_vt (s : KS) (n : Int) : (s.prepare n).2.vs = s.vs ∧ (s.prepare n).2.th = s.th := by
  unfold KS.prepare
  split
  · exact ⟨rfl, rfl⟩
  · cases aget n s.ws with
    | none => exact ⟨rfl, rfl⟩
    | some v =>
      simp only
      split
      · exact ⟨rfl, rfl⟩
      · split <;> exact ⟨rfl, rfl⟩
theorem restore_vt (s : KS) (n : Int) (l : List Ch) : (s.restore n l).2.vs = s.vs ∧ (s.restore n l).2.th = s.th := by
  unfold KS.restore
  split
  · exact ⟨rfl, rfl⟩
  · split
    · exact ⟨rfl, rfl⟩
    · split
      · exact ⟨rfl, rfl⟩
      · split <;> exact ⟨rfl, rfl⟩
theorem Agree.call {L : List (Int × Int)} {s : KS} (h : Agree L s) (hs : s.Ok) (o : KOp) : Agree (callL L s o) (callK s o).2 := by
  unfold callL callK
  by_cases h4 : o.kind = 4
  · rw [if_pos h4, if_neg (by omega), if_neg (by omega), if_neg (by omega), if_neg (by omega), if_pos h4]
    exact h.commit hs o.work
  · rw [if_neg h4]
    split
    · rw [get_st]; exact h.same (touch_vt _ _ _ _).1 (touch_vt _ _ _ _).2
    · split
      · exact h.same (change_vt _ _ _).1 (change_vt _ _ _).2
      · split
        · exact h.same (change_vt _ _ _).1 (change_vt _ _ _).2
        · split
          · exact h.same (prepare_vt _ _).1 (prepare_vt _ _).2
          · skip
            split
            · unfold KS.backout
              split <;> exact h.same rfl rfl
            · split
              · exact h.same (restore_vt _ _ _).1 (restore_vt _ _ _).2
              · exact h
theorem aput_len {n : Int} {v u : KW} {ws : List (Int × KW)} (h : aget n ws = some u) : (aput n v ws).length = ws.length := by
  unfold aput
  rw [h]
  simp
theorem change_len (s : KS) (n : Int) (c : Ch) : (s.change n c).2.ws.length ≤ s.ws.length + 1 := by
  have ht := touch_len s n c.key true
  unfold KS.change
  simp only
  split
  · exact ht
  · rename_i h0
    have h0' : (s.touch n c.key true).1 = 0 := by simpa using h0
    show (aput n _ (s.touch n c.key true).2.ws).length ≤ _
    rw [aput_len (touch_list h0')]
    exact ht
theorem gone_len (s : KS) (n : Int) : (s.gone n).ws.length ≤ s.ws.length := List.length_filter_le _ _
theorem setVs_ws : ∀ (l : List Ch) (s : KS), (l.foldl setV s).ws = s.ws
  | [], _ => rfl
  | c :: cs, s => setVs_ws cs (setV s c)
theorem call_len (s : KS) (o : KOp) : (callK s o).2.ws.length ≤ s.ws.length + 1 := by
  unfold callK
  split
  · rw [get_st]; exact touch_len _ _ _ _
  · split
    · exact change_len _ _ _
    · split
      · exact change_len _ _ _
      · split
        · show (s.prepare o.work).2.ws.length ≤ _
          unfold KS.prepare
          split
          · simp
          · cases hg : aget o.work s.ws with
            | none => have := gone_len s o.work; simp only; omega
            | some v =>
              simp only
              split
              · simp
              · split
                · have := gone_len s o.work; simp only; omega
                · simp only [aput_len hg]; omega
        · split
          · show (s.commit o.work).2.ws.length ≤ _
            unfold KS.commit
            split
            · simp
            · have := gone_len ((s.listOf o.work).foldl setV s) o.work
              rw [setVs_ws] at this
              simp only; omega
          · split
            · show (s.backout o.work).2.ws.length ≤ _
              unfold KS.backout
              split
              · simp
              · have := gone_len s o.work
                simp only; omega
            · split
              · show (s.restore o.work o.l).2.ws.length ≤ _
                unfold KS.restore
                split
                · simp
                · split
                  · simp
                  · split
                    · simp
                    · split
                      · simp
                      · simp only
                        split
                        · omega
                        · simp
              · simp
theorem call_ok {s : KS} (h : s.Ok) (o : KOp) : (callK s o).2.Ok := by
  unfold callK
  split
  · exact h.get _ _
  · split
    · exact h.change _ _ (.inl rfl)
    · split
      · exact h.change _ _ (.inr ⟨rfl, rfl⟩)
      · split
        · exact h.prepare _
        · split
          · exact h.commit _
          · split
            · exact h.backout _
            · split
              · exact h.restore _ _
              · exact h
end Go.Mine
