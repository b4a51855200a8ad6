/- The plain queue's invariant stays. No walk. -/
import Derived.Test.YtmckdoiepmkbbaaQuU
namespace Go.Mine
set_option linter.unusedVariables false
set_option linter.unusedSimpArgs false
theorem takesOf_append (a b : List Ch) : takesOf (a ++ b) = takesOf a ++ takesOf b := List.filter_append ..
theorem prepd_list {n : Int} {ws : List (Int × KW)} {c : Ch} : listOfW n ws ++ [c] ≠ [] := by simp
theorem QS.Ok.put {s : QS} (h : s.Ok) (n v : Int) : (s.put n v).2.Ok := by
  unfold QS.put
  by_cases h1 : s.fit n = 0
  · rw [if_neg (by simp [h1])]
    by_cases h2 : s.room < 1
    · rw [if_pos h2]; exact h
    · rw [if_neg h2]
      obtain ⟨hn, hp⟩ := fit_pos h1
      have hr : s.room = min (16 - (s.its.length : Int) - putsW s.ws) (4611686018427387904 - (s.gv + 1) - putsW s.ws) := rfl
      have hpw := putsW_noteW (n := n) (c := ⟨3, 0, v⟩) h.keys
      have hpw' : putsW (noteW n ⟨3, 0, v⟩ s.ws) = putsW s.ws + 1 := hpw
      refine ⟨noteW_keys h.keys, fun x hx => ?_, fun x hx => ?_, fun x hx => ?_, ?_, h.g0, ?_, h.front, fun m hm => ?_, h.num⟩
      · rcases noteW_mem hx with q | rfl
        · exact h.pos x q
        · exact hn
      · rcases noteW_mem hx with q | rfl
        · exact h.ne x q
        · exact prepd_list
      · rcases noteW_mem hx with q | rfl
        · exact h.ch x q
        · intro c hc
          rcases List.mem_append.1 hc with hc | hc
          · obtain ⟨y, hy, hcy⟩ := listOfW_mem hc
            exact h.ch y hy c hcy
          · obtain rfl := List.mem_singleton.1 hc
            exact .inl ⟨rfl, rfl⟩
      · show s.its.length + putsW (noteW n ⟨3, 0, v⟩ s.ws) ≤ 16
        omega
      · show s.gv + 1 + putsW (noteW n ⟨3, 0, v⟩ s.ws) ≤ _
        omega
      · show (heldI m s.its).map chOf = takesOf (listOfW m (noteW n ⟨3, 0, v⟩ s.ws))
        rw [listOfW_noteW h.keys, h.held m hm]
        by_cases q : m = n
        · rw [if_pos q, takesOf_append, q]
          show _ = _ ++ []
          rw [List.append_nil]
        · rw [if_neg q]
  · rw [if_pos h1]; exact h
theorem take_split {n : Int} {its : List It} {i : Nat} (h : its.findIdx? (fun x => x.by_ != n) = some i) : ∃ L1 x L2, its = L1 ++ x :: L2 ∧ L1.length = i ∧ (∀ y ∈ L1, y.by_ = n) ∧ x.by_ ≠ n ∧ its.getD i ⟨0, 0, 0⟩ = x := by
  rw [List.findIdx?_eq_some_iff_getElem] at h
  obtain ⟨hi, h1, h2⟩ := h
  refine ⟨its.take i, its[i], its.drop (i + 1), ?_, by simp; omega, fun y hy => ?_, by simpa using h1, by simp [List.getD_eq_getElem?_getD, hi]⟩
  · rw [← List.drop_eq_getElem_cons hi, List.take_append_drop]
  · obtain ⟨j, hj, rfl⟩ := List.mem_iff_getElem.1 hy
    rw [List.length_take] at hj
    have := h2 j (by omega)
    rw [List.getElem_take]
    simpa using this
theorem front_mid {A B L1 L2 : List It} {x : It} {h : Int} (e : A ++ B = L1 ++ x :: L2) (hA : ∀ x ∈ A, x.by_ = h) (hB : ∀ x ∈ B, x.by_ = 0) (hp : A ≠ [] → 1 ≤ h) (hx : x.by_ = 0) : ∀ y ∈ L2, y.by_ = 0 := by
  rcases List.append_eq_append_iff.1 e with ⟨a', h1, h2⟩ | ⟨c', h1, h2⟩
  · intro y hy
    exact hB y (by rw [h2]; simp [hy])
  · cases c' with
    | nil =>
      intro y hy
      refine hB y ?_
      have h3 : B = x :: L2 := by simpa using h2.symm
      rw [h3]; simp [hy]
    | cons z zs =>
      exfalso
      have h3 : x = z := by
        have := congrArg List.head? h2
        simpa using this
      have hm : x ∈ A := by rw [h1, h3]; simp
      have := hA x hm
      have := hp (List.ne_nil_of_mem hm)
      omega
theorem filt_zero {m : Int} (hm : m ≠ 0) {L : List It} (h : ∀ x ∈ L, x.by_ = 0) : heldI m L = [] := List.filter_eq_nil_iff.2 (fun x hx => by rw [h x hx]; simpa using Ne.symm hm)
theorem filt_all {n : Int} {L : List It} (h : ∀ x ∈ L, x.by_ = n) : heldI n L = L := List.filter_eq_self.2 (fun x hx => by simpa using h x hx)
theorem filt_other {m n : Int} (hm : m ≠ n) {L : List It} (h : ∀ x ∈ L, x.by_ = n) : heldI m L = [] := List.filter_eq_nil_iff.2 (fun x hx => by rw [h x hx]; simpa using Ne.symm hm)
theorem heldI_append (m : Int) (a b : List It) : heldI m (a ++ b) = heldI m a ++ heldI m b := List.filter_append ..
theorem heldI_cons (m : Int) (a : It) (b : List It) : heldI m (a :: b) = (if a.by_ = m then [a] else []) ++ heldI m b := by
  unfold heldI
  rw [List.filter_cons]
  by_cases h : a.by_ = m
  · rw [if_pos (by simpa using h), if_pos h]; rfl
  · rw [if_neg (by simpa using h), if_neg h]; rfl
theorem QS.Ok.take {s : QS} (h : s.Ok) (n : Int) : (s.take n).2.Ok := by
  unfold QS.take
  by_cases h1 : s.fit n = 0
  · rw [if_neg (by simp [h1])]
    cases hi : s.its.findIdx? (fun x => x.by_ != n) with
    | none => exact h
    | some i =>
      simp only
      obtain ⟨L1, x, L2, e, hl, hL1, hxn, hxd⟩ := take_split hi
      rw [hxd]
      by_cases h2 : x.by_ = 0
      · rw [if_neg (by simpa using h2)]
        obtain ⟨hn, hp⟩ := fit_pos h1
        obtain ⟨A, B, hh, e2, hA, hB, hpos⟩ := h.front
        have hL2 := front_mid (e2.symm.trans e) hA hB hpos h2
        have hset : s.its.set i ⟨x.num, x.val, n⟩ = L1 ++ ⟨x.num, x.val, n⟩ :: L2 := by
          rw [e, List.set_append_right _ _ (by omega), hl, Nat.sub_self]
          rfl
        have hpw : putsW (noteW n ⟨4, x.num, x.val⟩ s.ws) = putsW s.ws + 0 := putsW_noteW (n := n) (c := ⟨4, x.num, x.val⟩) h.keys
        have hlen : (s.its.set i ⟨x.num, x.val, n⟩).length = s.its.length := by simp
        refine ⟨noteW_keys h.keys, fun x hx => ?_, fun x hx => ?_, fun y hx => ?_, ?_, ?_, ?_, ?_, fun m hm => ?_, fun j y hy => ?_⟩
        · rcases noteW_mem hx with q | rfl
          · exact h.pos x q
          · exact hn
        · rcases noteW_mem hx with q | rfl
          · exact h.ne x q
          · exact prepd_list
        · rcases noteW_mem hx with q | rfl
          · exact h.ch y q
          · intro c hc
            rcases List.mem_append.1 hc with hc | hc
            · obtain ⟨y, hy, hcy⟩ := listOfW_mem hc
              exact h.ch y hy c hcy
            · obtain rfl := List.mem_singleton.1 hc
              exact .inr rfl
        · have := h.sz
          show (s.its.set i ⟨x.num, x.val, n⟩).length + putsW (noteW n ⟨4, x.num, x.val⟩ s.ws) ≤ 16
          omega
        · have := h.g0
          show ((s.its.set i ⟨x.num, x.val, n⟩).length : Int) ≤ s.gv
          omega
        · have := h.g1
          show s.gv + 1 + putsW (noteW n ⟨4, x.num, x.val⟩ s.ws) ≤ _
          omega
        · refine ⟨L1 ++ [⟨x.num, x.val, n⟩], L2, n, ?_, fun y hy => ?_, hL2, fun _ => hn⟩
          · show s.its.set i ⟨x.num, x.val, n⟩ = _
            rw [hset]; simp
          · rcases List.mem_append.1 hy with q | q
            · exact hL1 y q
            · obtain rfl := List.mem_singleton.1 q; rfl
        · show (heldI m (s.its.set i ⟨x.num, x.val, n⟩)).map chOf = takesOf (listOfW m (noteW n ⟨4, x.num, x.val⟩ s.ws))
          have hold := h.held m hm
          rw [e, heldI_append, heldI_cons, filt_zero hm hL2, List.append_nil, if_neg (by omega : ¬ x.by_ = m), List.append_nil] at hold
          rw [hset, listOfW_noteW h.keys, heldI_append, heldI_cons, filt_zero hm hL2, List.append_nil]
          by_cases q : m = n
          · rw [if_pos q.symm, if_pos q, takesOf_append, ← q, ← hold, List.map_append]
            rfl
          · rw [if_neg (by exact fun e => q e.symm), if_neg q, List.append_nil]
            exact hold
        · show y.num = s.gv - (s.its.set i ⟨x.num, x.val, n⟩).length + 1 + j
          rw [hlen]
          have hy' : (s.its.set i ⟨x.num, x.val, n⟩)[j]? = some y := hy
          by_cases q : j = i
          · subst q
            have hx := h.num j x (by rw [e, List.getElem?_append_right (by omega), hl, Nat.sub_self]; rfl)
            rw [hset, List.getElem?_append_right (by omega), hl, Nat.sub_self] at hy'
            simp only [List.getElem?_cons_zero, Option.some.injEq] at hy'
            rw [← hy']
            exact hx
          · rw [List.getElem?_set_ne (Ne.symm q)] at hy'
            exact h.num j y hy'
      · rw [if_pos (by simpa using h2)]; exact h
  · rw [if_pos h1]; exact h
theorem QS.Ok.prepare {s : QS} (h : s.Ok) (n : Int) : (s.prepare n).2.Ok := by
  unfold QS.prepare
  by_cases h1 : s.fit n = 0
  · rw [if_neg (by simp [h1])]
    cases hg : aget n s.ws with
    | none => exact h
    | some v =>
      simp only
      obtain ⟨X, Y, hw, hX, hY, hp, _⟩ := aget_split h.keys hg
      have hpw : putsW (aput n ⟨v.l, true⟩ s.ws) = putsW s.ws := by
        rw [hp, hw, putsW_append, putsW_append]; rfl
      have hmem : ∀ x ∈ aput n ⟨v.l, true⟩ s.ws, ∃ y ∈ s.ws, y.1 = x.1 ∧ y.2.l = x.2.l := fun x hx => by
        rcases mem_aput hx with q | q
        · exact ⟨(n, v), aget_mem hg, by rw [q], by rw [q]⟩
        · exact ⟨x, q.1, rfl, rfl⟩
      refine ⟨aput_keys h.keys, fun x hx => ?_, fun x hx => ?_, fun x hx => ?_, ?_, h.g0, ?_, h.front, fun m hm => ?_, h.num⟩
      · obtain ⟨y, hy, e1, e2⟩ := hmem x hx; rw [← e1]; exact h.pos y hy
      · obtain ⟨y, hy, e1, e2⟩ := hmem x hx; rw [← e2]; exact h.ne y hy
      · obtain ⟨y, hy, e1, e2⟩ := hmem x hx; rw [← e2]; exact h.ch y hy
      · show s.its.length + putsW (aput n ⟨v.l, true⟩ s.ws) ≤ 16
        rw [hpw]; exact h.sz
      · show s.gv + 1 + putsW (aput n ⟨v.l, true⟩ s.ws) ≤ _
        rw [hpw]; exact h.g1
      · show (heldI m s.its).map chOf = takesOf (listOfW m (aput n ⟨v.l, true⟩ s.ws))
        rw [h.held m hm]
        unfold listOfW
        rw [aget_aput h.keys]
        by_cases q : m = n
        · rw [if_pos q, q, hg]; rfl
        · rw [if_neg q]
  · rw [if_pos h1]; exact h
theorem listOfW_adel {m n : Int} {ws : List (Int × KW)} : listOfW m (adel n ws) = if m = n then [] else listOfW m ws := by
  conv => lhs; unfold listOfW
  rw [aget_adel]
  by_cases h : m = n
  · rw [if_pos h, if_pos h]; rfl
  · rw [if_neg h, if_neg h]; rfl
theorem putsW_adel {n : Int} {ws : List (Int × KW)} (hk : ws.Pairwise (fun x y => x.1 ≠ y.1)) : putsW (adel n ws) + putsL (listOfW n ws) = putsW ws := by
  unfold listOfW
  cases hg : aget n ws with
  | none => rw [adel_none hg]; simp [putsL]
  | some v =>
    obtain ⟨X, Y, hw, _, _, _, hd⟩ := aget_split hk hg
    rw [hd, hw, putsW_append, putsW_append]
    simp only [putsW, Option.map_some, Option.getD_some]
    omega
theorem adel_mem {n : Int} {ws : List (Int × KW)} {x : Int × KW} (h : x ∈ adel n ws) : x ∈ ws ∧ x.1 ≠ n := by
  unfold adel at h
  simpa using List.mem_filter.1 h
theorem QS.Ok.backout {s : QS} (h : s.Ok) (n : Int) : (s.backout n).2.Ok := by
  unfold QS.backout
  by_cases h1 : n < 1
  · rw [if_pos h1]; exact h
  · rw [if_neg h1]
    have hpw := putsW_adel (n := n) h.keys
    obtain ⟨A, B, hh, e, hA, hB, hp⟩ := h.front
    have hfz : ∀ x : It, x.by_ ≠ n → freeI n x = x := fun x hx => by unfold freeI; rw [if_neg (by simpa using hx)]
    have hB' : B.map (freeI n) = B := by
      conv => rhs; rw [← List.map_id B]
      exact List.map_congr_left (fun x hx => by rw [hfz x (by rw [hB x hx]; omega)]; rfl)
    refine ⟨h.keys.filter _, fun x hx => h.pos x (adel_mem hx).1, fun x hx => h.ne x (adel_mem hx).1, fun x hx => h.ch x (adel_mem hx).1, ?_, ?_, ?_, ?_, fun m hm => ?_, fun i x hx => ?_⟩
    · show (s.its.map (freeI n)).length + putsW (adel n s.ws) ≤ 16
      rw [List.length_map]; have := h.sz; omega
    · show ((s.its.map (freeI n)).length : Int) ≤ s.gv
      rw [List.length_map]; exact h.g0
    · show s.gv + 1 + putsW (adel n s.ws) ≤ _
      have := h.g1; omega
    · show ∃ A B h, s.its.map (freeI n) = A ++ B ∧ _
      rw [e, List.map_append, hB']
      by_cases q : hh = n
      · refine ⟨[], A.map (freeI n) ++ B, 0, rfl, by simp, fun x hx => ?_, by simp⟩
        rcases List.mem_append.1 hx with hx | hx
        · obtain ⟨y, hy, rfl⟩ := List.mem_map.1 hx
          unfold freeI
          rw [if_pos (by rw [hA y hy]; simpa using q)]
        · exact hB x hx
      · have hA' : A.map (freeI n) = A := by
          conv => rhs; rw [← List.map_id A]
          exact List.map_congr_left (fun x hx => by rw [hfz x (by rw [hA x hx]; exact q)]; rfl)
        rw [hA']
        exact ⟨A, B, hh, rfl, hA, hB, hp⟩
    · show (heldI m (s.its.map (freeI n))).map chOf = takesOf (listOfW m (adel n s.ws))
      rw [listOfW_adel]
      by_cases q : m = n
      · rw [if_pos q]
        have : heldI m (s.its.map (freeI n)) = [] := List.filter_eq_nil_iff.2 (fun x hx => by
          obtain ⟨y, hy, rfl⟩ := List.mem_map.1 hx
          unfold freeI
          by_cases hy2 : y.by_ = n
          · rw [if_pos (by simpa using hy2)]; simpa using Ne.symm hm
          · rw [if_neg (by simpa using hy2)]; simpa [q] using hy2)
        rw [this]; rfl
      · rw [if_neg q, ← h.held m hm]
        congr 1
        unfold heldI
        have : ∀ L : List It, (L.map (freeI n)).filter (fun x => x.by_ == m) = L.filter (fun x => x.by_ == m) := fun L => by
          induction L with
          | nil => rfl
          | cons x L ih =>
            rw [List.map_cons, List.filter_cons, List.filter_cons, ih]
            by_cases hx : x.by_ = n
            · have h2 : freeI n x = ⟨x.num, x.val, 0⟩ := by unfold freeI; rw [if_pos (by simpa using hx)]
              rw [h2, if_neg (by simpa using Ne.symm hm), if_neg (by rw [hx]; simpa using Ne.symm q)]
            · rw [hfz x hx]
        exact this _
    · show x.num = s.gv - (s.its.map (freeI n)).length + 1 + i
      rw [List.length_map]
      have hx' : (s.its.map (freeI n))[i]? = some x := hx
      rw [List.getElem?_map] at hx'
      cases hy : s.its[i]? with
      | none => rw [hy] at hx'; simp at hx'
      | some y =>
        rw [hy] at hx'
        simp only [Option.map_some, Option.some.injEq] at hx'
        rw [← h.num i y hy, ← hx']
        unfold freeI
        split <;> rfl
theorem newI_num (l : List Ch) : ∀ (g : Int) (i : Nat) (x : It), (newI l g)[i]? = some x → x.num = g + 1 + i ∧ x.by_ = 0 := by
  induction l with
  | nil => intro g i x h; simp [newI] at h
  | cons c l ih =>
    intro g i x h
    rw [newI] at h
    split at h
    · cases i with
      | zero => simp at h; rw [← h]; exact ⟨by simp, rfl⟩
      | succ i =>
        rw [List.getElem?_cons_succ] at h
        have := ih _ i x h
        exact ⟨by have := this.1; push_cast; omega, this.2⟩
    · exact ih _ i x h
theorem newI_by {l : List Ch} {g : Int} {x : It} (h : x ∈ newI l g) : x.by_ = 0 := by
  obtain ⟨i, hi, rfl⟩ := List.mem_iff_getElem.1 h
  exact (newI_num l g i _ (List.getElem?_eq_getElem hi)).2
theorem kept_front {A B : List It} {h n : Int} (hn : 1 ≤ n) (hA : ∀ x ∈ A, x.by_ = h) (hB : ∀ x ∈ B, x.by_ = 0) : keptI n (A ++ B) = if h = n then B else A ++ B := by
  unfold keptI
  rw [List.filter_append]
  have h2 : B.filter (fun x => !(x.by_ == n)) = B := List.filter_eq_self.2 (fun x hx => by rw [hB x hx]; simp; omega)
  rw [h2]
  by_cases q : h = n
  · rw [if_pos q, List.filter_eq_nil_iff.2 (fun x hx => by rw [hA x hx]; simpa using q)]; rfl
  · rw [if_neg q, List.filter_eq_self.2 (fun x hx => by rw [hA x hx]; simpa using q)]
theorem QS.Ok.commit {s : QS} (h : s.Ok) (n : Int) : (s.commit n).2.Ok := by
  unfold QS.commit
  by_cases h1 : n < 1
  · rw [if_pos h1]; exact h
  · rw [if_neg h1]
    have hpw := putsW_adel (n := n) h.keys
    have hnl := newI_len (listOfW n s.ws) s.gv
    obtain ⟨A, B, hh, e, hA, hB, hp⟩ := h.front
    obtain ⟨A', B', hk, hA', hB', hp', he, hsub⟩ : ∃ A' B', keptI n s.its = A' ++ B' ∧ (∀ x ∈ A', x.by_ = hh) ∧ (∀ x ∈ B', x.by_ = 0) ∧ (A' ≠ [] → 1 ≤ hh) ∧ (∀ x ∈ A', x.by_ ≠ n) ∧ ∃ Z, s.its = Z ++ (A' ++ B') := by
      rw [e, kept_front (by omega) hA hB]
      by_cases q : hh = n
      · rw [if_pos q]; exact ⟨[], B, rfl, by simp, hB, by simp, by simp, A, rfl⟩
      · rw [if_neg q]; exact ⟨A, B, rfl, hA, hB, hp, fun x hx => by rw [hA x hx]; exact q, [], rfl⟩
    have hN : ∀ x ∈ newI (listOfW n s.ws) s.gv, x.by_ = 0 := fun x hx => newI_by hx
    obtain ⟨Z, hZ⟩ := hsub
    have hlen : s.its.length = Z.length + (keptI n s.its).length := by rw [hk]; rw [hZ]; simp
    have h2 := h.sz
    have h3 := h.g0
    have h4 := h.g1
    refine ⟨h.keys.filter _, fun x hx => h.pos x (adel_mem hx).1, fun x hx => h.ne x (adel_mem hx).1, fun x hx => h.ch x (adel_mem hx).1, ?_, ?_, ?_, ?_, fun m hm => ?_, fun i x hx => ?_⟩
    · show (keptI n s.its ++ newI (listOfW n s.ws) s.gv).length + putsW (adel n s.ws) ≤ 16
      rw [List.length_append]; omega
    · show ((keptI n s.its ++ newI (listOfW n s.ws) s.gv).length : Int) ≤ s.gv + putsL (listOfW n s.ws)
      rw [List.length_append]; omega
    · show s.gv + putsL (listOfW n s.ws) + 1 + putsW (adel n s.ws) ≤ _
      omega
    · refine ⟨A', B' ++ newI (listOfW n s.ws) s.gv, hh, ?_, hA', fun x hx => ?_, hp'⟩
      · show keptI n s.its ++ _ = _
        rw [hk, List.append_assoc]
      · rcases List.mem_append.1 hx with q | q
        · exact hB' x q
        · exact hN x q
    · show (heldI m (keptI n s.its ++ newI (listOfW n s.ws) s.gv)).map chOf = takesOf (listOfW m (adel n s.ws))
      rw [listOfW_adel, heldI_append, filt_zero hm hN, List.append_nil]
      by_cases q : m = n
      · rw [if_pos q]
        have : heldI m (keptI n s.its) = [] := List.filter_eq_nil_iff.2 (fun x hx => by
          have := (List.mem_filter.1 hx).2
          rw [q]; simpa using this)
        rw [this]; rfl
      · rw [if_neg q, ← h.held m hm]
        congr 1
        unfold heldI keptI
        rw [List.filter_filter]
        apply List.filter_congr
        intro x _
        by_cases hx : x.by_ = m
        · have : x.by_ ≠ n := by omega
          simp [hx, q]
        · simp [hx]
    · show x.num = s.gv + putsL (listOfW n s.ws) - (keptI n s.its ++ newI (listOfW n s.ws) s.gv).length + 1 + i
      rw [List.length_append, hnl]
      have hx' : (keptI n s.its ++ newI (listOfW n s.ws) s.gv)[i]? = some x := hx
      by_cases q : i < (keptI n s.its).length
      · rw [List.getElem?_append_left q] at hx'
        have h5 := h.num (Z.length + i) x (by
          rw [hZ, ← hk, List.getElem?_append_right (by omega), Nat.add_sub_cancel_left]
          exact hx')
        rw [h5]
        push_cast
        omega
      · rw [List.getElem?_append_right (by omega)] at hx'
        have h5 := (newI_num _ _ _ _ hx').1
        rw [h5]
        push_cast
        omega
end Go.Mine
