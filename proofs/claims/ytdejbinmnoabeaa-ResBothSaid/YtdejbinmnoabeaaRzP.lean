/- The plain resources: a work that put a key and pushed an item: what its prepare, commit and backout make. No walk. -/
import Derived.Test.YtdejbinmnoabeaaRzG0
import Derived.Test.YtdejbinmnoabeaaRzA
namespace Go.Mine
set_option linter.unusedVariables false
set_option linter.unusedSimpArgs false
structure Both (s : RM) (n key v : Int) (p p' : Bool) : Prop where
  ok : s.Ok
  n1 : 1 ≤ n
  ka : aget n s.k.ws = some ⟨[⟨1, key, v⟩], p⟩
  qa : aget n s.q.ws = some ⟨[⟨3, 0, v⟩], p'⟩
theorem change_fit {s : RM} {n : Int} {c : Ch} (h : (s.change n c).1 = 0) : s.fit n = 0 := by
  unfold RM.change at h
  split at h
  · exact h
  · rename_i q; simpa using q
theorem push_fit {s : RM} {n v : Int} (h : (s.push n v).1 = 0) : s.fit n = 0 := by
  unfold RM.push at h
  split at h
  · exact h
  · rename_i q; simpa using q
theorem kchange_zero {s : KS} {n : Int} {c : Ch} (h : (s.change n c).1 = 0) : (s.touch n c.key true).1 = 0 := by
  unfold KS.change at h
  simp only at h
  split at h
  · exact h
  · rename_i q; simpa using q
theorem both_of {s : RM} (h : s.Ok) {n key v : Int} (hb : s.busy n = false) (h1 : (s.change n ⟨1, key, v⟩).1 = 0) (h2 : ((s.change n ⟨1, key, v⟩).2.push n v).1 = 0) :
    Both ((s.change n ⟨1, key, v⟩).2.push n v).2 n key v false false := by
  have hf := change_fit h1
  have hn : 1 ≤ n := by
    rcases s.fit_cases n with ⟨_, e⟩ | ⟨q, _⟩ | ⟨q, _⟩
    · rw [hf] at e; cases e
    · exact q
    · exact q
  have hok1 := h.change n ⟨1, key, v⟩ (.inl rfl)
  have hok2 := hok1.push n v
  have hf2 := push_fit h2
  have hc : s.change n ⟨1, key, v⟩ = ((s.k.change n ⟨1, key, v⟩).1, ⟨(s.k.change n ⟨1, key, v⟩).2, s.q⟩) := by unfold RM.change; rw [if_neg (by rw [hf]; simp)]
  unfold RM.busy at hb
  rw [Bool.or_eq_false_iff] at hb
  have hka : aget n s.k.ws = none := by have := hb.1; unfold KS.busy at this; simpa using this
  have hqa : aget n s.q.ws = none := by have := hb.2; unfold QS.busy at this; simpa using this
  have hkc : (s.k.change n ⟨1, key, v⟩).1 = 0 := by rw [hc] at h1; exact h1
  have ht := kchange_zero hkc
  have hka1 : aget n (s.k.change n ⟨1, key, v⟩).2.ws = some ⟨[⟨1, key, v⟩], false⟩ := by
    unfold KS.change
    simp only
    rw [if_neg (by simp at ht; simp [ht])]
    show aget n (aput n ⟨putCh ⟨1, key, v⟩ ((s.k.touch n key true).2.listOf n), false⟩ (s.k.touch n key true).2.ws) = _
    rw [aget_put_self _ _ (h.k.touch n key true).keys]
    have hlt := touch_list (s := s.k) (n := n) (key := key) (al := true) ht
    have : (s.k.touch n key true).2.listOf n = [] := by
      unfold KS.listOf at hlt ⊢
      rw [hlt, hka]
      rfl
    rw [this]
    rfl
  have hp : (s.change n ⟨1, key, v⟩).2.push n v = (((s.change n ⟨1, key, v⟩).2.q.put n v).1, ⟨(s.change n ⟨1, key, v⟩).2.k, ((s.change n ⟨1, key, v⟩).2.q.put n v).2⟩) := by unfold RM.push; rw [if_neg (by rw [hf2]; simp)]
  have hq : (s.change n ⟨1, key, v⟩).2.q = s.q := by rw [hc]
  have hk : (s.change n ⟨1, key, v⟩).2.k = (s.k.change n ⟨1, key, v⟩).2 := by rw [hc]
  refine ⟨hok2, hn, ?_, ?_⟩
  · rw [hp]
    show aget n (s.change n ⟨1, key, v⟩).2.k.ws = _
    rw [hk]; exact hka1
  · rw [hp] at h2 ⊢
    show aget n ((s.change n ⟨1, key, v⟩).2.q.put n v).2.ws = _
    rw [hq] at h2 ⊢
    have h3 : (s.q.put n v).1 = 0 := h2
    unfold QS.put at h3 ⊢
    split at h3
    · rename_i q; exact absurd h3 q
    · rename_i q
      split at h3
      · cases h3
      · rename_i q2
        rw [if_neg q, if_neg q2]
        show aget n (noteW n ⟨3, 0, v⟩ s.q.ws) = _
        unfold noteW
        rw [hqa]
        exact aget_snoc_self hqa
theorem Both.fit {s : RM} {n key v : Int} {p p' : Bool} (h : Both s n key v p p') : s.fit n = if (p || p') = true then 7 else 0 := by
  have := h.n1
  unfold RM.fit
  rw [if_neg (by omega)]
  unfold prepd
  rw [h.ka, h.qa]
  rfl
theorem Both.prepare {s : RM} {n key v : Int} (h : Both s n key v false false) : (s.prepare n).1 = ([⟨1, key, v⟩, ⟨3, 0, v⟩], 0) ∧ Both (s.prepare n).2 n key v true true ∧ Go.Proofs.Ytdejbinmnoabeaa.imgR (s.prepare n).2 = Go.Proofs.Ytdejbinmnoabeaa.imgR s := by
  have hn := h.n1
  have hok := h.ok.prepare n
  have hf : s.fit n = 0 := h.fit
  have hk : s.k.prepare n = (([⟨1, key, v⟩], 0), { s.k with ws := aput n ⟨[⟨1, key, v⟩], true⟩ s.k.ws }) := by
    unfold KS.prepare
    rw [if_neg (by omega), h.ka]
    simp
  have hqf : s.q.fit n = 0 := by
    unfold QS.fit prepd
    rw [if_neg (by omega), h.qa]
    rfl
  have hq : s.q.prepare n = (([⟨3, 0, v⟩], 0), ⟨s.q.its, aput n ⟨[⟨3, 0, v⟩], true⟩ s.q.ws, s.q.gv⟩) := by
    unfold QS.prepare
    rw [if_neg (by rw [hqf]; simp), h.qa]
  have hp : s.prepare n = (([⟨1, key, v⟩, ⟨3, 0, v⟩], 0), ⟨{ s.k with ws := aput n ⟨[⟨1, key, v⟩], true⟩ s.k.ws }, ⟨s.q.its, aput n ⟨[⟨3, 0, v⟩], true⟩ s.q.ws, s.q.gv⟩⟩) := by
    unfold RM.prepare
    rw [if_neg (by rw [hf]; simp), hk, hq]
    rfl
  rw [hp] at hok ⊢
  exact ⟨rfl, ⟨hok, hn, aget_put_self _ _ h.ok.k.keys, aget_put_self _ _ h.ok.q.keys⟩, rfl⟩
theorem aget_adel_self {n : Int} {ws : List (Int × KW)} : aget n (adel n ws) = none := by
  rw [aget_none]
  intro e he
  have := List.mem_filter.1 he
  simpa using this.2
theorem Both.fit7 {s : RM} {n key v : Int} (h : Both s n key v true true) : s.fit n ≠ 1 := by rw [h.fit]; simp
theorem Both.backout {s : RM} {n key v : Int} (h : Both s n key v true true) : (s.backout n).1 = 0 ∧ Go.Proofs.Ytdejbinmnoabeaa.imgR (s.backout n).2 = Go.Proofs.Ytdejbinmnoabeaa.imgR s ∧ (s.backout n).2.busy n = false := by
  have hn := h.n1
  have hb : s.backout n = (0, ⟨(s.k.backout n).2, (s.q.backout n).2⟩) := by unfold RM.backout; rw [if_neg h.fit7]
  rw [hb]
  refine ⟨rfl, ?_, ?_⟩
  · show Go.Proofs.Ytdejbinmnoabeaa.Img.mk _ _ _ = Go.Proofs.Ytdejbinmnoabeaa.Img.mk _ _ _
    rw [kback_ws hn]
    unfold QS.backout
    rw [if_neg (by omega)]
    congr 1
    show (s.q.its.map (freeI n)).map (·.val) = s.q.its.map (·.val)
    rw [List.map_map]
    exact List.map_congr_left (fun x _ => by show (freeI n x).val = x.val; unfold freeI; split <;> rfl)
  · unfold RM.busy KS.busy QS.busy
    show ((aget n (s.k.backout n).2.ws).isSome || (aget n (s.q.backout n).2.ws).isSome) = false
    rw [kback_ws hn, qback_ws hn]
    show ((aget n (adel n s.k.ws)).isSome || _) = false
    rw [aget_adel_self, aget_adel_self]
    rfl
theorem Both.commit {s : RM} {n key v : Int} (h : Both s n key v true true) : (s.commit n).1 = 0 ∧ (key, v) ∈ (Go.Proofs.Ytdejbinmnoabeaa.imgR (s.commit n).2).P ∧ (Go.Proofs.Ytdejbinmnoabeaa.imgR (s.commit n).2).L = (Go.Proofs.Ytdejbinmnoabeaa.imgR s).L ++ [v] ∧ (s.commit n).2.busy n = false := by
  have hn := h.n1
  have hb : s.commit n = (0, ⟨(s.k.commit n).2, (s.q.commit n).2⟩) := by unfold RM.commit; rw [if_neg h.fit7]
  have hlk : s.k.listOf n = [⟨1, key, v⟩] := by unfold KS.listOf; rw [h.ka]; rfl
  have hlq : listOfW n s.q.ws = [⟨3, 0, v⟩] := by unfold listOfW; rw [h.qa]; rfl
  have hrw := h.ok.k.listOf n
  rw [hlk] at hrw
  have hch := (chOk_iff _).1 (hrw.1 _ (List.mem_singleton.2 rfl))
  obtain ⟨_, h0, h16⟩ := hch
  simp only at h0 h16
  rw [hb]
  refine ⟨rfl, ?_, ?_, ?_⟩
  · have hkc : (s.k.commit n).2 = (setV s.k ⟨1, key, v⟩).gone n := by
      unfold KS.commit
      rw [if_neg (by omega), hlk]
      rfl
    show (key, v) ∈ Go.Proofs.Ytdejbinmnoabeaa.pairsK (s.k.commit n).2 16
    rw [hkc]
    unfold Go.Proofs.Ytdejbinmnoabeaa.pairsK
    refine List.mem_map.2 ⟨⟨1, key, v⟩, ?_, rfl⟩
    unfold fillL
    refine List.mem_map.2 ⟨key.toNat, ?_, ?_⟩
    · unfold fillP
      refine List.mem_filter.2 ⟨List.mem_range.2 (by omega), ?_⟩
      show ((s.k.th.set key.toNat ((1 : Int) == 1)).getD key.toNat false) = true
      have := h.ok.k.lt
      rw [List.getD_eq_getElem?_getD, List.getElem?_set_self (by omega)]
      rfl
    · show (⟨1, (key.toNat : Int), (s.k.vs.set key.toNat v).getD key.toNat 0⟩ : Ch) = _
      have := h.ok.k.lv
      rw [List.getD_eq_getElem?_getD, List.getElem?_set_self (by omega)]
      simp only [Option.getD_some]
      rw [Int.toNat_of_nonneg h0]
  · show (s.q.commit n).2.its.map (·.val) = s.q.its.map (·.val) ++ [v]
    unfold QS.commit
    rw [if_neg (by omega), hlq]
    show (keptI n s.q.its ++ newI [⟨3, 0, v⟩] s.q.gv).map (·.val) = _
    have hh := h.ok.q.held n (by omega)
    rw [hlq] at hh
    have hk : keptI n s.q.its = s.q.its := by
      unfold keptI
      rw [List.filter_eq_self]
      intro x hx
      have h1 : heldI n s.q.its = [] := List.map_eq_nil_iff.1 hh
      unfold heldI at h1
      have := List.filter_eq_nil_iff.1 h1 x hx
      simpa using this
    rw [hk, List.map_append]
    rfl
  · unfold RM.busy KS.busy QS.busy
    show ((aget n (s.k.commit n).2.ws).isSome || (aget n (s.q.commit n).2.ws).isSome) = false
    rw [kcommit_ws hn, qcommit_ws hn, aget_adel_self, aget_adel_self]
    rfl
end Go.Mine
